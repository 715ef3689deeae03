/- Walks of this claim's functions, and plain laws. -/
import Derived.Test.YtbaohngkapmhlaaDoorWe
import Derived.Test.YtbaohngkapmhlaaDoorAMLift
set_option linter.unusedSimpArgs false
set_option linter.unusedVariables false
namespace Go.Proofs.YtbaohngkapmhlaaDoor
open Go.AM
set_option maxRecDepth 8000
theorem b85_PC6 : type_of% (And.intro (@List.map_toArray.{0,0}) (And.intro (@AM.boxK_agg) (And.intro (@AM.boxK_bool) (And.intro (@AM.boxK_func) (And.intro (@AM.boxK_int) (And.intro (@AM.boxK_map) (And.intro (@AM.boxK_pointer) (And.intro (@AM.boxK_slice) (And.intro (@AM.boxK_string) (And.intro (@AM.op_box) (@AM.op_makeFunc))))))))))) := And.intro (@List.map_toArray.{0,0}) (And.intro (@AM.boxK_agg) (And.intro (@AM.boxK_bool) (And.intro (@AM.boxK_func) (And.intro (@AM.boxK_int) (And.intro (@AM.boxK_map) (And.intro (@AM.boxK_pointer) (And.intro (@AM.boxK_slice) (And.intro (@AM.boxK_string) (And.intro (@AM.op_box) (@AM.op_makeFunc))))))))))
theorem b43_PC6 : type_of% (And.intro (@AM.alK_some) (And.intro (@al_65) (And.intro (@al_70) (And.intro (@AM.bin_neq) (And.intro (@AM.boxK_agg) (And.intro (@AM.boxK_bool) (And.intro (@AM.boxK_func) (And.intro (@AM.boxK_int) (And.intro (@AM.boxK_map) (And.intro (@AM.boxK_pointer) (And.intro (@AM.boxK_slice) (And.intro (@AM.boxK_string) (And.intro (AM.bsW_agg bs_70) (And.intro (AM.bsW_nil bs_70) (And.intro (@AM.fa_ptr) (And.intro (@fd_59_0) (And.intro (@AM.ldO_agg) (And.intro (@AM.ldO_one) (And.intro (@AM.ld_ptr) (And.intro (AM.len_slice ul_22) (And.intro (@lk_22) (And.intro (@lk_26) (And.intro (@lk_59) (And.intro (@lk_65) (And.intro (@lk_70) (And.intro (@AM.op_alloc) (And.intro (@AM.op_append) (And.intro (@AM.op_binOp) (And.intro (@AM.op_box) (And.intro (@AM.op_buildSlice) (And.intro (@AM.op_call) (And.intro (@AM.op_fieldAddr) (And.intro (@AM.op_len) (And.intro (@AM.op_load) (And.intro (@AM.op_store) (And.intro (@AM.op_unOp) (And.intro (@AM.stO_agg) (And.intro (@AM.stO_bool) (And.intro (@AM.stO_int) (And.intro (@AM.stO_map) (And.intro (@AM.stO_pointer) (And.intro (@AM.stO_slice) (And.intro (@AM.stO_string) (And.intro (@AM.st_ptr) (And.intro (@sz_65) (And.intro (@sz_70) (And.intro (@AM.un_neg) (@AM.un_not)))))))))))))))))))))))))))))))))))))))))))))))) := And.intro (@AM.alK_some) (And.intro (@al_65) (And.intro (@al_70) (And.intro (@AM.bin_neq) (And.intro (@AM.boxK_agg) (And.intro (@AM.boxK_bool) (And.intro (@AM.boxK_func) (And.intro (@AM.boxK_int) (And.intro (@AM.boxK_map) (And.intro (@AM.boxK_pointer) (And.intro (@AM.boxK_slice) (And.intro (@AM.boxK_string) (And.intro (AM.bsW_agg bs_70) (And.intro (AM.bsW_nil bs_70) (And.intro (@AM.fa_ptr) (And.intro (@fd_59_0) (And.intro (@AM.ldO_agg) (And.intro (@AM.ldO_one) (And.intro (@AM.ld_ptr) (And.intro (AM.len_slice ul_22) (And.intro (@lk_22) (And.intro (@lk_26) (And.intro (@lk_59) (And.intro (@lk_65) (And.intro (@lk_70) (And.intro (@AM.op_alloc) (And.intro (@AM.op_append) (And.intro (@AM.op_binOp) (And.intro (@AM.op_box) (And.intro (@AM.op_buildSlice) (And.intro (@AM.op_call) (And.intro (@AM.op_fieldAddr) (And.intro (@AM.op_len) (And.intro (@AM.op_load) (And.intro (@AM.op_store) (And.intro (@AM.op_unOp) (And.intro (@AM.stO_agg) (And.intro (@AM.stO_bool) (And.intro (@AM.stO_int) (And.intro (@AM.stO_map) (And.intro (@AM.stO_pointer) (And.intro (@AM.stO_slice) (And.intro (@AM.stO_string) (And.intro (@AM.st_ptr) (And.intro (@sz_65) (And.intro (@sz_70) (And.intro (@AM.un_neg) (@AM.un_not)))))))))))))))))))))))))))))))))))))))))))))))


abbrev encS (x : Sp) : List Value := [.int .i64 x.1, .int .i64 x.2.1, .int .i64 x.2.2]
theorem encS_len (x : Sp) : (encS x).length = 3 := rfl
theorem preR_steps (L : List (List UInt8)) (s : St) (k : Nat) : ∀ n, (preR (allP L.flatten L.flatten.length) k n).filter (may L s) = (List.range n).flatMap (stepsR L s ((k + 1 : Nat) : Int))
  | 0 => rfl
  | n + 1 => by
    rw [preR, List.filter_append, preR_steps L s k n, List.range_succ, List.flatMap_append]
    simp only [List.flatMap_cons, List.flatMap_nil, List.append_nil]; rfl
theorem preK_steps (L : List (List UInt8)) (s : St) : (preK (allP L.flatten L.flatten.length) s.1.length 3).filter (may L s) = stepsL L s := by
  rw [preK, preK, preK, preK, List.nil_append, List.filter_append, List.filter_append, preR_steps, preR_steps, preR_steps]; rfl
theorem take_filter {p : Sp → Bool} {l : List Sp} {i : Nat} {x : Sp} (h : l[i]? = some x) : (l.take (i + 1)).filter p = (l.take i).filter p ++ if p x = true then [x] else [] := by
  rw [List.take_add_one, h, List.filter_append]
  congr 1
  show ([x].filter p) = _
  rw [filter_one]
theorem preR_len (C : List Int) (k : Nat) : ∀ n, (preR C k n).length = n * C.length
  | 0 => by rw [Nat.zero_mul]; rfl
  | n + 1 => by rw [preR, List.length_append, preR_len C k n, Nat.succ_mul]; unfold preC; rw [List.length_map]
theorem preK_len (C : List Int) (n : Nat) : ∀ k, (preK C n k).length = k * (n * C.length)
  | 0 => by rw [Nat.zero_mul]; rfl
  | k + 1 => by rw [preK, List.length_append, preK_len C n k, preR_len, Nat.succ_mul]
theorem pall_w {p : Nat} {n : Int} {h : AHeap} {Q : VQ}
    (hq : ∀ w1 w2 h', h'.get w1 = some (.cells [.int .i64 n] 3 false) → h'.get w2 = some (.cells [pv p] 26 false) → Fr none' h h' → h.next ≤ w1 → h.next ≤ w2 → Q (.func (.func 104) #[] #[pv w1, pv w2]) h') : W 85 [pv p, .int .i64 n] h Q := by
  refine AM.enter hp (fn := Tryd.f85) (rs := [.tmp 4]) (nt := 6) (by kernel_rfl) Tryd.func85 rfl rfl rfl (by kernel_rfl) ?_
  simp (maxSteps := 1000000) (disch := first | omega | (simp only [AM.DB, List.length_set, List.length_map]; first | done | omega)) only [AM.RB, Nat.reduceAdd, Nat.reduceMul, Nat.reduceEqDiff, reduceCtorEq, b85_PC6]
  generalize hE_ : AHeap.alloc h _ = h1; obtain ⟨g1, fr1, n1, l1⟩ := AM.new_get hE_; clear hE_
  generalize hE_ : AHeap.alloc h1 _ = h2; obtain ⟨g2, fr2, n2, l2⟩ := AM.new_get hE_; clear hE_
  rw [n1] at g2
  (first | (simp (maxSteps := 1000000) (disch := first | omega | (simp only [AM.DB, List.length_set, List.length_map]; first | done | omega)) only [AM.RB, Nat.reduceAdd, Nat.reduceMul, Nat.reduceEqDiff, reduceCtorEq, b85_PC6]) | skip)
  all_goals exact hq _ _ _ g2 (g1.fr0 fr2) (fr1.trans fr2) (by omega) (by omega)

/-- What stands behind each round: the map, the steps so far. 'N': the objects that were there ahead of the range. -/
def stK (h : AHeap) (N p t2 t3 b w1 w2 : Nat) (L : List (List UInt8)) (B : Nat → Prop) (v1 v2 : Value) (s : St) (l : List Sp) (S : Nat → Prop) (h' : AHeap) : Prop :=
  ∃ Sm sl, Mt h' p L Sm ∧ (∀ id, Sm id → id < N ∨ S id) ∧ (∀ id, B id ∨ id = t2 ∨ id = t3 ∨ id = b ∨ id = w1 ∨ id = w2 ∨ idOf sl id → ¬ Sm id) ∧
    h'.get t2 = some (.cells [pv p] 26 false) ∧ h'.get t3 = some (.cells [v1, v2] 59 false) ∧ StR h' (.agg #[v1, v2]) s ∧
    h'.get w1 = some (.cells [.int .i64 (s.1.length : Int)] 3 false) ∧ h'.get w2 = some (.cells [pv p] 26 false) ∧
    h'.get b = some (.cells [sl] 70 false) ∧ Ow h' 65 3 sl l.length (l.flatMap encS) ∧ (∀ id, idOf sl id → S id ∧ N ≤ id) ∧ h'.get GW = some (.cells waysC 166 false) ∧ Fr (fun id => id = p) h h'
theorem frExtP {h h1 h2 : AHeap} {N : Nat} {T : Nat → Prop} (fr : Fr T h h1) (hB : ∀ id, id < N → h2.get id = h1.get id) (hb : h.next ≤ N) (hn : h1.next ≤ h2.next) (hl : h2.low = h1.low) : Fr T h h2 :=
  ⟨Nat.le_trans fr.next hn, hl.trans fr.low, fun id q1 q2 => by rw [hB id (by omega)]; exact fr.old id q1 q2⟩
theorem stK.keep {h : AHeap} {N p t2 t3 b w1 w2 : Nat} {L : List (List UInt8)} {B : Nat → Prop} {v1 v2 : Value} {s : St} {l : List Sp} {S : Nat → Prop} {h1 h2 : AHeap} (hN : h.next ≤ N) (ho : (t2 < N ∧ t3 < N ∧ b < N) ∧ w1 < N ∧ w2 < N ∧ GW < N) (hv : ∀ id, idOf v1 id ∨ idOf v2 id → id < N)
    (k : stK h N p t2 t3 b w1 w2 L B v1 v2 s l S h1) (hS : ∀ id, S id → h2.get id = h1.get id) (hB : ∀ id, id < N → h2.get id = h1.get id) (hn : h1.next ≤ h2.next) (hl : h2.low = h1.low) : stK h N p t2 t3 b w1 w2 L B v1 v2 s l S h2 := by
  obtain ⟨Sm, sl, m, hm, hd, g2, g3, ⟨a, c, e, ra, rc⟩, gw1, gw2, gb, o, hsl, gg, fr⟩ := k
  cases e
  refine ⟨Sm, sl, m.keep (fun id q => ?_) hn hl, hm, hd, by rw [hB _ ho.1.1]; exact g2, by rw [hB _ ho.1.2.1]; exact g3, ⟨_, _, rfl, ra.same (fun id q => hB id (hv id (.inl q))), rc.same (fun id q => hB id (hv id (.inr q)))⟩,
    by rw [hB _ ho.2.1]; exact gw1, by rw [hB _ ho.2.2.1]; exact gw2, by rw [hB _ ho.1.2.2]; exact gb, o.same (fun id q => hS id (hsl id q).1) hl, hsl, by rw [hB _ ho.2.2.2]; exact gg, frExtP fr hB hN hn hl⟩
  rcases hm id q with q | q
  · exact hB id q
  · exact hS id q

set_option maxHeartbeats 8000000 in
theorem steps_w {h : AHeap} {p : Nat} {L : List (List UInt8)} {B : Nat → Prop} {v : Value} {s : St} (m : Mk h p L B) (f : Fit L) (hw : h.get GW = some (.cells waysC 166 false)) (hgl : GW < h.low) (hl : h.low ≤ h.next) (hs : StR h v s) (hvB : ∀ a b, v = .agg #[a, b] → ∀ id, idOf a id ∨ idOf b id → B id) {Q : VQ}
    (hq : ∀ v' h', Ow h' 65 3 v' (if chk L.flatten s = true then stepsL L s else []).length ((if chk L.flatten s = true then stepsL L s else []).flatMap encS) → Mk h' p L B → Fr (fun id => id = p) h h' → (∀ id, idOf v' id → h.next ≤ id) → Q v' h') : W 43 [pv p, v] h Q := by
  obtain ⟨v1, v2, rfl, ra, rb⟩ := id hs
  have hvB := hvB v1 v2 rfl
  obtain ⟨aa, ac, rfl⟩ := ra.form
  obtain ⟨ba, bc, rfl⟩ := rb.form
  have hBlt := m.2
  have ltp := m.lt
  refine AM.enter hp (fn := Tryd.f43) (rs := [.tmp 4]) (nt := 27) (by kernel_rfl) Tryd.func43 rfl rfl rfl (by kernel_rfl) ?_
  simp (maxSteps := 1000000) (disch := first | omega | (simp only [AM.DB, List.length_set, List.length_map]; first | done | omega)) only [AM.RB, Nat.reduceAdd, Nat.reduceMul, Nat.reduceEqDiff, reduceCtorEq, b43_PC6]
  generalize hE_ : AHeap.alloc h _ = h1; obtain ⟨g1, fr1, n1, l1⟩ := AM.new_get hE_; clear hE_
  generalize hE_ : AHeap.alloc h1 _ = h2; obtain ⟨g2, fr2, n2, l2⟩ := AM.new_get hE_; clear hE_
  rw [n1] at g2
  have g12 := g1.fr0 fr2
  have fr02 := fr1.trans fr2
  have m2 := m.fr0 fr02
  have hs2 := hs.fr0 fr02
  obtain ⟨kv2, tl2, mm2⟩ := m2.mp
  (first | (simp (maxSteps := 1000000) (disch := first | omega | (simp only [AM.DB, List.length_set, List.length_map]; first | done | omega)) only [AM.RB, Nat.reduceAdd, Nat.reduceMul, Nat.reduceEqDiff, reduceCtorEq, b43_PC6, g12, g2]) | skip)
  refine check_w mm2 f hs2 (by omega) fun h3 fr3 => ?_
  cases hc : chk L.flatten s
  · rw [hc] at hq
    have d250 : decide ((250 : Int) = 0) = false := rfl
    (first | (simp (maxSteps := 1000000) (disch := first | omega | (simp only [AM.DB, List.length_set, List.length_map]; first | done | omega)) only [AM.RB, Nat.reduceAdd, Nat.reduceMul, Nat.reduceEqDiff, reduceCtorEq, b43_PC6, d250]) | skip)
    exact hq _ _ (Ow.nil _ _ _) (m2.fr0 fr3) ((fr02.trans fr3).mono fun _ _ q => q.elim) (fun _ q => q.elim)
  rw [hc] at hq
  simp only [if_true] at hq ⊢
  (first | (simp (maxSteps := 1000000) (disch := first | omega | (simp only [AM.DB, List.length_set, List.length_map]; first | done | omega)) only [AM.RB, Nat.reduceAdd, Nat.reduceMul, Nat.reduceEqDiff, reduceCtorEq, b43_PC6]) | skip)
  have g13 := g12.fr0 fr3
  have g23 := g2.fr0 fr3
  generalize hE_ : AHeap.alloc h3 _ = h4; obtain ⟨g4, fr4, n4, l4⟩ := AM.new_get hE_; clear hE_
  have g14 := g13.fr0 fr4
  have g24 := g23.fr0 fr4
  (first | (simp (maxSteps := 1000000) (disch := first | omega | (simp only [AM.DB, List.length_set, List.length_map]; first | done | omega)) only [AM.RB, Nat.reduceAdd, Nat.reduceMul, Nat.reduceEqDiff, reduceCtorEq, b43_PC6, g14, g24]) | skip)
  refine pall_w fun w1 w2 h5 gw1 gw2 fr5 hw1 hw2 => ?_
  have g15 := g14.fr0 fr5
  have g25 := g24.fr0 fr5
  have g45 := g4.fr0 fr5
  have fr05 := ((fr02.trans fr3).trans fr4).trans fr5
  obtain ⟨⟨S0, m0, hB0⟩, hb0⟩ := id m
  have m5 := m0.fr0 fr05
  have hs5 := hs.fr0 fr05
  have hw5 := hw.fr0 fr05
  have nx5 := fr5.next
  have nx05 := fr05.next
  have lw5 := fr05.low
  have nx3 := fr3.next
  have ltw1 := AM.get_some_lt gw1
  have ltw2 := AM.get_some_lt gw2
  have ltb := AM.get_some_lt g45
  have hl5 : h5.low ≤ h5.next := by omega
  have h64 : s.1.length ≤ 64 := ((chk_iff _ _).1 hc).l64
  have hsn : s.2.length = L.flatten.length := ((chk_iff _ _).1 hc).ln
  have hvlt : ∀ id, idOf (.slice aa s.1.length ac) id ∨ idOf (.slice ba s.2.length bc) id → id < h5.next := fun id q => by have := hBlt id (hvB id q); omega
  simp (maxSteps := 1000000) (disch := first | omega | (simp only [AM.DB, List.length_set, List.length_map]; first | done | omega)) only [AM.RB, Nat.reduceAdd, Nat.reduceMul, Nat.reduceEqDiff, reduceCtorEq, b43_PC6]
  generalize hX : preK (allP L.flatten L.flatten.length) s.1.length 3 = X at *
  have hit := all1_w (w1 := w1) (w2 := w2) (p := p) (n := s.1.length) f (by omega) (h := h5)
  rw [hX] at hit
  have stab : ∀ l, ∀ S a b, h5.next ≤ a.next → stK h h5.next p h.next (h.next + 1) h3.next w1 w2 L B (.slice aa s.1.length ac) (.slice ba s.2.length bc) s l S a → (∀ id, S id → b.get id = a.get id) → (∀ id, id < h5.next → b.get id = a.get id) → a.next ≤ b.next → b.low = a.low → stK h h5.next p h.next (h.next + 1) h3.next w1 w2 L B (.slice aa s.1.length ac) (.slice ba s.2.length bc) s l S b :=
    fun l S a b _ k hS hB hn hl => k.keep (by omega) ⟨⟨by omega, by omega, by omega⟩, by omega, by omega, by omega⟩ hvlt hS hB hn hl
  refine AM.range_iterI hp (I := allI w1 w2 p s.1.length L) (xs := X.map fun x => [spV x]) (AM.entersV_of Tryd.func104 rfl) (by kernel_rfl) (by kernel_rfl) ?_ hl5 hit
    (fun i => AM.JK h5.next (stK h h5.next p h.next (h.next + 1) h3.next w1 w2 L B (.slice aa s.1.length ac) (.slice ba s.2.length bc) s ((X.take i).filter (may L s)))) (fun _ _ _ => False) ?_ ?_ (fun _ => AM.Stab.no)
    (fun i x e A h' => ∃ bx, AM.Sh e 27 [(2, pv h.next), (3, pv (h.next + 1)), (5, pv h3.next), (6, pv bx)] ∧ AM.JK h5.next (fun S h' => stK h h5.next p h.next (h.next + 1) h3.next w1 w2 L B (.slice aa s.1.length ac) (.slice ba s.2.length bc) s ((X.take i).filter (may L s)) S h' ∧ (S bx ∧ h5.next ≤ bx) ∧ (∀ c, x = [.agg c] → h'.get bx = some (.cells c.toList 65 false))) A h') ?_ ?_ ?_ ?_ ?_ ?_
  · intro x hx; obtain ⟨q, _, rfl⟩ := List.mem_map.1 hx; rfl
  · exact fun i => AM.JK.stab (stab _)
  · rintro i A h6 ⟨hB6, hA6, S, ⟨Sm, sl, k⟩, hS6⟩ hlw6
    obtain ⟨mt, _, _, _, _, _, kw1, kw2, _⟩ := k
    exact ⟨kw1, kw2, mt.mp⟩
  · exact fun i x e => AM.Stab.ex fun bx => AM.Stab.and (AM.JK.stab fun S a b hB ⟨hk, sb, hg⟩ hS hBl hn' hl' => ⟨stab _ S a b hB hk hS hBl hn' hl', sb, fun c hx => by rw [hS bx sb.1]; exact hg c hx⟩)
  · rintro i x A h6 hx ⟨hB6, hA6, S, ⟨Sm, sl, mt, hm, hd, k2, k3, ks, kw1, kw2, kb, o, hsl, kg, fr⟩, hS6⟩ hA1 hL3 hlow3
    rw [List.getElem?_map] at hx
    obtain ⟨q, hq', rfl⟩ := Option.map_eq_some_iff.1 hx
    (first | (simp (maxSteps := 1000000) (disch := first | omega | (simp only [AM.DB, List.length_set, List.length_map]; first | done | omega)) only [AM.RB, Nat.reduceAdd, Nat.reduceMul, Nat.reduceEqDiff, reduceCtorEq, b43_PC6]) | skip)
    generalize hE_ : AHeap.put (AHeap.alloc h6 _) _ _ = h7; obtain ⟨g7, fr7, n7, l7⟩ := AM.box_get hE_ (by omega); clear hE_
    refine ⟨by omega, fun id q1 _ => fr7.old id q1 (fun q => q), h6.next, rfl, by omega, hA6, fun id => S id ∨ id = h6.next, ⟨⟨Sm, sl, mt.fr0 fr7, fun id q => (hm id q).imp (fun q => q) .inl, hd, k2.fr0 fr7, k3.fr0 fr7, ks.fr0 fr7, kw1.fr0 fr7, kw2.fr0 fr7, kb.fr0 fr7, o.fr0 fr7, fun id q => ⟨.inl (hsl id q).1, (hsl id q).2⟩, kg.fr0 fr7, fr.trans (fr7.mono fun _ _ q => q.elim)⟩, ⟨.inr rfl, hB6⟩, ?_⟩, ?_⟩
    · rintro c hcx
      cases hcx; exact g7
    · rintro id (q | rfl)
      · exact ⟨by have := (hS6 id q).1; omega, (hS6 id q).2⟩
      · exact ⟨by omega, fun q => by have := (hA1 _ q).2; omega⟩
  · intro o
    have fra : Fr none' h5 (h5.alloc o) := (Fr.refl _ _).alloc _
    rw [List.take_zero, List.filter_nil]
    refine ⟨Nat.le_succ _, fun id e => by omega, fun _ => False, ⟨S0, .slice none 0 0, m5.fr0 fra, fun id q => .inl (m5.lt q), fun id q s => ?_, g15.fr0 fra, g25.fr0 fra, hs5.fr0 fra, gw1.fr0 fra, gw2.fr0 fra, g45.fr0 fra, Ow.nil _ _ _, fun _ q => q.elim, hw5.fr0 fra, (fr05.trans fra).mono fun _ _ q => q.elim⟩, fun _ q => q.elim⟩
    have := m0.lt s
    rcases q with q | q | q | q | q | q | q
    · exact hB0 id q s
    · omega
    · omega
    · omega
    · omega
    · omega
    · exact q.elim
  · rintro i x e A h6 hx ⟨bx, he, hB6, hA6, S, ⟨⟨Sm, sl, mt, hm, hd, k2, k3, ks, kw1, kw2, kb, o, hsl, kg, fr⟩, ⟨sbx, hbx5⟩, hbx⟩, hS6⟩ hA1 hL3 hlow3
    obtain ⟨ρ, rfl⟩ := he.open'
    rw [List.getElem?_map] at hx
    obtain ⟨q, hq', rfl⟩ := Option.map_eq_some_iff.1 hx
    have gbx := hbx _ rfl
    obtain ⟨sla, slc, rfl⟩ := o.form
    have mk : Mk h6 p L (fun id => id < h6.next ∧ ¬ Sm id) := ⟨⟨Sm, mt, fun id q => q.2⟩, fun id q => q.1⟩
    have htf := take_filter (p := may L s) hq'
    (first | (simp (maxSteps := 1000000) (disch := first | omega | (simp only [AM.DB, List.length_set, List.length_map]; first | done | omega)) only [AM.RB, Nat.reduceAdd, Nat.reduceMul, Nat.reduceEqDiff, reduceCtorEq, b43_PC6, k2, k3, gbx]) | skip)
    refine pmay_w mk f kg (by omega) (by omega) ks hsn q fun h7 mk7 fr7 => ?_
    obtain ⟨⟨Sm7, mt7, hd7⟩, _⟩ := mk7
    have nx7 := fr7.next
    have lw7 := fr7.low
    obtain ⟨_, _, mm6⟩ := mt.mp
    have hpl : h6.low ≤ p := mm6.2.2.2.1
    have hsub : ∀ id, Sm7 id → Sm id ∨ (h6.next ≤ id ∧ id < h7.next) := fun id s7 => by
      by_cases hlt : id < h6.next
      · by_cases hs' : Sm id
        · exact .inl hs'
        · exact absurd s7 (hd7 id ⟨hlt, hs'⟩)
      · exact .inr ⟨by omega, mt7.lt s7⟩
    have np : ∀ id, ¬ Sm id → id ≠ p := fun id q e => q (by rw [e]; exact mt.self)
    have D2 := hd h.next (.inr (.inl rfl))
    have D3 := hd (h.next + 1) (.inr (.inr (.inl rfl)))
    have Db := hd h3.next (.inr (.inr (.inr (.inl rfl))))
    have Dw1 := hd w1 (.inr (.inr (.inr (.inr (.inl rfl)))))
    have Dw2 := hd w2 (.inr (.inr (.inr (.inr (.inr (.inl rfl))))))
    have Dsl : ∀ id, idOf (.slice sla _ slc) id → ¬ Sm id := fun id q => hd id (.inr (.inr (.inr (.inr (.inr (.inr q))))))
    have slt : ∀ id, idOf (.slice sla _ slc) id → id < h6.next := fun id q => o.lt q
    have k27 := fr7.get k2 (np _ D2)
    have k37 := fr7.get k3 (np _ D3)
    have kw17 := fr7.get kw1 (np _ Dw1)
    have kw27 := fr7.get kw2 (np _ Dw2)
    have kb7 := fr7.get kb (np _ Db)
    have ks7 := ks.frp (T := fun id => id = p) (fun a c e => by
      cases e
      exact ⟨fun id q => np id (hd id (.inl (hvB id (.inl q)))), fun id q => np id (hd id (.inl (hvB id (.inr q))))⟩) fr7
    have o7 := o.fr fr7 (fun id q => np id (Dsl id q))
    have kg7 := fr7.get kg (show ¬ GW = p by omega)
    have gbx7 := fr7.get gbx (show ¬ bx = p by omega)
    have frh7 := fr.trans fr7
    have hnA : ∀ id, A id → ¬ id = p := fun id q e => by have := hA6 id q; omega
    have hdis7 : ∀ id, B id ∨ id = h.next ∨ id = h.next + 1 ∨ id = h3.next ∨ id = w1 ∨ id = w2 → ¬ Sm7 id := fun id q s7 => by
      rcases hsub id s7 with s' | s'
      · exact hd id (by
          rcases q with q | q | q | q | q | q
          · exact .inl q
          · exact .inr (.inl q)
          · exact .inr (.inr (.inl q))
          · exact .inr (.inr (.inr (.inl q)))
          · exact .inr (.inr (.inr (.inr (.inl q))))
          · exact .inr (.inr (.inr (.inr (.inr (.inl q)))))) s'
      · rcases q with q | q | q | q | q | q
        · have := hBlt id q; omega
        all_goals omega
    cases hmy : may L s q
    · rw [hmy] at htf
      simp only [Bool.false_eq_true, if_false, List.append_nil] at htf
      (first | (simp (maxSteps := 1000000) (disch := first | omega | (simp only [AM.DB, List.length_set, List.length_map]; first | done | omega)) only [AM.RB, Nat.reduceAdd, Nat.reduceMul, Nat.reduceEqDiff, reduceCtorEq, b43_PC6]) | skip)
      rw [htf]
      refine ⟨by omega, by omega, fun id q1 q2 => fr7.old id q1 (hnA id q2), by omega, hA6, fun id => S id ∨ (h6.next ≤ id ∧ id < h7.next), ⟨Sm7, _, mt7, fun id s7 => ?_, fun id q s7 => ?_, k27, k37, ks7, kw17, kw27, kb7, o7, fun id q => ⟨.inl (hsl id q).1, (hsl id q).2⟩, kg7, frh7⟩, fun id q => ?_⟩
      · rcases hsub id s7 with s' | s'
        · exact (hm id s').imp (fun q => q) .inl
        · exact .inr (.inr s')
      · rcases q with q | q | q | q | q | q | q
        · exact hdis7 id (.inl q) s7
        · exact hdis7 id (.inr (.inl q)) s7
        · exact hdis7 id (.inr (.inr (.inl q))) s7
        · exact hdis7 id (.inr (.inr (.inr (.inl q)))) s7
        · exact hdis7 id (.inr (.inr (.inr (.inr (.inl q))))) s7
        · exact hdis7 id (.inr (.inr (.inr (.inr (.inr q))))) s7
        · rcases hsub id s7 with s' | s'
          · exact Dsl id q s'
          · have := slt id q; omega
      · rcases q with q | q
        · exact ⟨by have := (hS6 id q).1; omega, (hS6 id q).2⟩
        · exact ⟨q.2, fun qa => by have := (hA1 id qa).2; omega⟩
    · rw [hmy] at htf
      simp only [if_true] at htf
      have hXl : X.length ≤ 3 * (64 * 1024) := by
        rw [← hX, preK_len]
        exact Nat.mul_le_mul_left _ (Nat.mul_le_mul h64 (Nat.le_trans (allP_len _ _) f.k1024))
      have hll : ((X.take i).filter (may L s)).length ≤ 196608 := Nat.le_trans (List.length_filter_le _ _) (Nat.le_trans (List.length_take_le' _ _) hXl)
      generalize (X.take i).filter (may L s) = l at *
      (first | (simp (maxSteps := 1000000) (disch := first | omega | (simp only [AM.DB, List.length_set, List.length_map]; first | done | omega)) only [AM.RB, Nat.reduceAdd, Nat.reduceMul, Nat.reduceEqDiff, reduceCtorEq, b43_PC6, kb7, gbx7]) | skip)
      generalize hE_ : AHeap.alloc h7 _ = h8; obtain ⟨g8, fr8, n8, l8⟩ := AM.new_get hE_; clear hE_
      have nx8 := fr8.next
      have lw8 := fr8.low
      refine AM.appends_w ap_70 ap_70 (o7.fr0 fr8) (AM.Rd.whole (n := 1) (c := encS q) g8 rfl) rfl (by omega) (AM.fits (by omega) (by omega)) (AM.fits' (by omega)) fun v' h9 o9 fr9 hid9 => ?_
      have nx9 := fr9.next
      have lw9 := fr9.low
      have nsl : ∀ id, id < h5.next → ¬ idOf (.slice sla l.length slc) id := fun id q1 q2 => by have := (hsl id q2).2; omega
      have ns7 : ∀ id, Sm7 id → ¬ idOf (.slice sla l.length slc) id := fun id s7 q => by
        rcases hsub id s7 with s' | s'
        · exact Dsl id q s'
        · have := slt id q; omega
      have mt9 := (mt7.fr0 fr8).fr fr9 ns7
      have ks9 := (ks7.fr0 fr8).frp (T := idOf (.slice sla l.length slc)) (fun a c e => by
        cases e
        exact ⟨fun id q => nsl id (hvlt id (.inl q)), fun id q => nsl id (hvlt id (.inr q))⟩) fr9
      have k29 := fr9.get (k27.fr0 fr8) (nsl _ (by omega))
      have k39 := fr9.get (k37.fr0 fr8) (nsl _ (by omega))
      have kw19 := fr9.get (kw17.fr0 fr8) (nsl _ (by omega))
      have kw29 := fr9.get (kw27.fr0 fr8) (nsl _ (by omega))
      have kb9 := fr9.get (kb7.fr0 fr8) (nsl _ (by omega))
      have kg9 := fr9.get (kg7.fr0 fr8) (nsl _ (by omega))
      have ltb9 := AM.get_some_lt kb9
      obtain ⟨va', vc', rfl⟩ := o9.form
      (first | (simp (maxSteps := 1000000) (disch := first | omega | (simp only [AM.DB, List.length_set, List.length_map]; first | done | omega)) only [AM.RB, Nat.reduceAdd, Nat.reduceMul, Nat.reduceEqDiff, reduceCtorEq, b43_PC6, kb9]) | skip)
      generalize hE_ : AHeap.put h9 _ _ = h10; obtain ⟨g10, fr10, n10, l10⟩ := AM.put_get hE_ ltb9; clear hE_
      have e10 : ∀ id, id ≠ h3.next → ¬ id = h3.next := fun _ q => q
      have o10 := o9.fr fr10 (fun id q e => by
        have e : id = h3.next := e
        rcases hid9 id q with q | q
        · have := (hsl id q).2; omega
        · omega)
      have ks10 := ks9.frp (T := fun id => id = h3.next) (fun a c e => by
        cases e
        exact ⟨fun id q e => by have e : id = h3.next := e; have := hBlt id (hvB id (.inl q)); omega, fun id q e => by have e : id = h3.next := e; have := hBlt id (hvB id (.inr q)); omega⟩) fr10
      have frh10 := ((frh7.trans (fr8.mono fun _ _ q => q.elim)).then fr9 (fun id q1 q2 => by have := (hsl id q2).2; omega)).then fr10 (fun id q1 q2 => by have q2 : id = h3.next := q2; omega)
      rw [htf]
      refine ⟨by omega, by omega, fun id q1 q2 => ?_, by omega, hA6, fun id => S id ∨ (h6.next ≤ id ∧ id < h10.next), ⟨Sm7, _, mt9.fr fr10 (fun id s7 e => hdis7 id (.inr (.inr (.inr (.inl e)))) s7), fun id s7 => ?_, fun id q s7 => ?_, fr10.get k29 (by omega), fr10.get k39 (by omega), ks10, fr10.get kw19 (by omega), fr10.get kw29 (by omega), g10, ?_, fun id q => ?_, fr10.get kg9 (by omega), frh10⟩, fun id q => ?_⟩
      · rw [fr10.old id (by omega) (fun e => by have e : id = h3.next := e; have := hA6 id q2; omega), fr9.old id (by omega) (fun e => (hS6 id (hsl id e).1).2 q2), fr8.old id (by omega) (fun e => e), fr7.old id q1 (hnA id q2)]
      · rcases hsub id s7 with s' | s'
        · exact (hm id s').imp (fun q => q) .inl
        · exact .inr (.inr ⟨s'.1, by omega⟩)
      · rcases q with q | q | q | q | q | q | q
        · exact hdis7 id (.inl q) s7
        · exact hdis7 id (.inr (.inl q)) s7
        · exact hdis7 id (.inr (.inr (.inl q))) s7
        · exact hdis7 id (.inr (.inr (.inr (.inl q)))) s7
        · exact hdis7 id (.inr (.inr (.inr (.inr (.inl q))))) s7
        · exact hdis7 id (.inr (.inr (.inr (.inr (.inr q))))) s7
        · rcases hid9 id q with q | q
          · exact ns7 id s7 q
          · have := mt7.lt s7; omega
      · rw [List.length_append, List.flatMap_append]
        simpa using o10
      · rcases hid9 id q with q' | q'
        · exact ⟨.inl (hsl id q').1, (hsl id q').2⟩
        · have := o10.lt q
          exact ⟨.inr ⟨by omega, this⟩, by omega⟩
      · rcases q with q | q
        · exact ⟨by have := (hS6 id q).1; omega, (hS6 id q).2⟩
        · exact ⟨q.2, fun qa => by have := (hA1 id qa).2; omega⟩
  · rintro A h6 ⟨hB6, hA6, S, ⟨Sm, sl, mt, hm, hd, k2, k3, ks, kw1, kw2, kb, o, hsl, kg, fr⟩, hS6⟩ hA1 hn6 hl6
    rw [List.length_map, List.take_length, ← hX, preK_steps] at o
    obtain ⟨sla, slc, rfl⟩ := o.form
    (first | (simp (maxSteps := 1000000) (disch := first | omega | (simp only [AM.DB, List.length_set, List.length_map]; first | done | omega)) only [AM.RB, Nat.reduceAdd, Nat.reduceMul, Nat.reduceEqDiff, reduceCtorEq, b43_PC6, kb]) | skip)
    exact hq _ _ o ⟨⟨Sm, mt, fun id q => hd id (.inl q)⟩, fun id q => by have := hBlt id q; omega⟩ fr (fun id q => by have := (hsl id q).2; omega)
  · exact fun _ _ _ q => q.elim

end Go.Proofs.YtbaohngkapmhlaaDoor

namespace Go.Proofs.YtbaohngkapmhlaaDoor
open Go.AM
set_option maxRecDepth 8000
theorem b46_PC9 : type_of% (And.intro (@AM.alK_some) (And.intro (@al_59) (And.intro (@al_65) (And.intro (@AM.bdV_some) (And.intro (@bd_65) (And.intro (@AM.bin_add) (And.intro (@AM.bin_leq) (And.intro (@AM.bin_lss) (And.intro (@AM.boxK_agg) (And.intro (@AM.boxK_bool) (And.intro (@AM.boxK_func) (And.intro (@AM.boxK_int) (And.intro (@AM.boxK_map) (And.intro (@AM.boxK_pointer) (And.intro (@AM.boxK_slice) (And.intro (@AM.boxK_string) (And.intro (AM.bsW_agg bs_70) (And.intro (AM.bsW_nil bs_70) (And.intro (@AM.ex_tuple) (And.intro (@AM.fa_ptr) (And.intro (@fd_59_0) (And.intro (@AM.fillL_cons) (And.intro (@AM.fillL_nil) (And.intro (@AM.fillS_agg) (And.intro (@AM.fillS_bool) (And.intro (@AM.fillS_func) (And.intro (@AM.fillS_int) (And.intro (@AM.fillS_map) (And.intro (@AM.fillS_pointer) (And.intro (@AM.fillS_slice) (And.intro (@AM.fillS_string) (And.intro (@AM.ldO_agg) (And.intro (@AM.ldO_one) (And.intro (@AM.ld_ptr) (And.intro (AM.len_slice ul_22) (And.intro (@lk_22) (And.intro (@lk_59) (And.intro (@lk_65) (And.intro (@AM.op_alloc) (And.intro (@AM.op_append) (And.intro (@AM.op_binOp) (And.intro (@AM.op_box) (And.intro (@AM.op_build) (And.intro (@AM.op_buildSlice) (And.intro (@AM.op_call) (And.intro (@AM.op_extract) (And.intro (@AM.op_fieldAddr) (And.intro (@AM.op_len) (And.intro (@AM.op_load) (And.intro (@AM.op_store) (And.intro (@AM.stO_agg) (And.intro (@AM.stO_bool) (And.intro (@AM.stO_int) (And.intro (@AM.stO_map) (And.intro (@AM.stO_pointer) (And.intro (@AM.stO_slice) (And.intro (@AM.stO_string) (And.intro (@AM.st_ptr) (And.intro (@sz_59) (@sz_65)))))))))))))))))))))))))))))))))))))))))))))))))))))))))))) := And.intro (@AM.alK_some) (And.intro (@al_59) (And.intro (@al_65) (And.intro (@AM.bdV_some) (And.intro (@bd_65) (And.intro (@AM.bin_add) (And.intro (@AM.bin_leq) (And.intro (@AM.bin_lss) (And.intro (@AM.boxK_agg) (And.intro (@AM.boxK_bool) (And.intro (@AM.boxK_func) (And.intro (@AM.boxK_int) (And.intro (@AM.boxK_map) (And.intro (@AM.boxK_pointer) (And.intro (@AM.boxK_slice) (And.intro (@AM.boxK_string) (And.intro (AM.bsW_agg bs_70) (And.intro (AM.bsW_nil bs_70) (And.intro (@AM.ex_tuple) (And.intro (@AM.fa_ptr) (And.intro (@fd_59_0) (And.intro (@AM.fillL_cons) (And.intro (@AM.fillL_nil) (And.intro (@AM.fillS_agg) (And.intro (@AM.fillS_bool) (And.intro (@AM.fillS_func) (And.intro (@AM.fillS_int) (And.intro (@AM.fillS_map) (And.intro (@AM.fillS_pointer) (And.intro (@AM.fillS_slice) (And.intro (@AM.fillS_string) (And.intro (@AM.ldO_agg) (And.intro (@AM.ldO_one) (And.intro (@AM.ld_ptr) (And.intro (AM.len_slice ul_22) (And.intro (@lk_22) (And.intro (@lk_59) (And.intro (@lk_65) (And.intro (@AM.op_alloc) (And.intro (@AM.op_append) (And.intro (@AM.op_binOp) (And.intro (@AM.op_box) (And.intro (@AM.op_build) (And.intro (@AM.op_buildSlice) (And.intro (@AM.op_call) (And.intro (@AM.op_extract) (And.intro (@AM.op_fieldAddr) (And.intro (@AM.op_len) (And.intro (@AM.op_load) (And.intro (@AM.op_store) (And.intro (@AM.stO_agg) (And.intro (@AM.stO_bool) (And.intro (@AM.stO_int) (And.intro (@AM.stO_map) (And.intro (@AM.stO_pointer) (And.intro (@AM.stO_slice) (And.intro (@AM.stO_string) (And.intro (@AM.st_ptr) (And.intro (@sz_59) (@sz_65)))))))))))))))))))))))))))))))))))))))))))))))))))))))))))


/-- A list of steps of the run's own. -/
def StepsO (h1 h' : AHeap) (v : Value) (l : List Sp) : Prop := Fr none' h1 h' ∧ Ow h' 65 3 v l.length (l.flatMap encS) ∧ ∀ id, idOf v id → h1.next ≤ id
set_option maxHeartbeats 8000000 in
theorem refSteps_w {h : AHeap} {p : Nat} {lv : Value} {L : List (List UInt8)} {l : List UInt8} {v : Value} {s : St} (r : Rp h p lv L) (G : Good l L) (hs : StR h v s) (hl : h.low ≤ h.next) (hc : chk L.flatten s = true) {Q : VQ}
    (hq : ∀ v' h', StepsO h h' v' (stepsL L s) → Q v' h') : W 46 [pv p, v] h Q := by
  have ch := (chk_iff _ _).1 hc
  have hK := G.fit.k1024
  have hln := ch.ln
  have hl64 := ch.l64
  have flen := G.fit.len
  have hbd : L.length ≤ 4000000 ∧ (L.getD 0 []).length ≤ 4000000 := by have := G.fit.r32; have := G.fit.c32; omega
  obtain ⟨a, b, rfl, ra, rb⟩ := id hs
  obtain ⟨aa, ac, rfl⟩ := ra.form
  obtain ⟨ba, bc, rfl⟩ := rb.form
  refine AM.enter hp (fn := Tryd.f46) (rs := [.tmp 4]) (nt := 46) (by kernel_rfl) Tryd.func46 rfl rfl rfl (by kernel_rfl) ?_
  simp (maxSteps := 1000000) (disch := first | omega | (simp only [AM.DB, List.length_set, List.length_map]; first | done | omega)) only [AM.RB, Nat.reduceAdd, Nat.reduceMul, Nat.reduceEqDiff, reduceCtorEq, b46_PC9]
  generalize hE_ : AHeap.alloc h _ = h1; obtain ⟨g1, fr1, n1, l1⟩ := AM.new_get hE_; clear hE_
  (repeat' (first | (simp (maxSteps := 1000000) (disch := first | omega | (simp only [AM.DB, List.length_set, List.length_map]; first | done | omega)) only [AM.RB, Nat.reduceAdd, Nat.reduceMul, Nat.reduceEqDiff, reduceCtorEq, b46_PC9]) | refine AM.build_w ?_))
  have lenK : ∀ k, k ≤ 3 → (stepsKs L s k).length ≤ 3 * (64 * 1024) := fun k hk => Nat.le_trans (stepsKs_len L s k) (Nat.mul_le_mul hk (Nat.mul_le_mul hl64 hK))
  have lenR : ∀ (kk : Int) r, r ≤ s.1.length → (stepsKn L s kk r).length ≤ 64 * 1024 := fun kk r hr => Nat.le_trans (stepsKn_len L s kk r) (Nat.mul_le_mul (by omega) hK)
  refine AM.loop_w hp 46 (fun q : Nat × Option Addr × Nat => [(0, pv p), (3, pv h.next), (5, .slice q.2.1 (stepsKs L s q.1).length q.2.2), (6, .int .i64 ((q.1 + 1 : Nat) : Int))])
    (fun q h' => q.1 ≤ 3 ∧ StepsO h1 h' (.slice q.2.1 (stepsKs L s q.1).length q.2.2) (stepsKs L s q.1)) (fun q => 3 - q.1) (by kernel_rfl) (0, none, 0) ?_ ?_ ?_
  · simp (maxSteps := 1000000) (disch := first | omega | (simp only [AM.DB, List.length_set, List.length_map]; first | done | omega)) only [AM.RB, Nat.reduceAdd, Nat.reduceMul, Nat.reduceEqDiff, reduceCtorEq, b46_PC9]
    first | rfl | skip
  · exact ⟨Nat.zero_le _, Fr.refl _ _, AM.Ow.nil _ _ _, fun id q => q.elim⟩
  rintro ⟨k, ka, kc⟩ h2 ρ ⟨hk, fr2, o2, hid2⟩
  simp only at hk o2 hid2 ⊢
  simp (maxSteps := 1000000) (disch := first | omega | (simp only [AM.DB, List.length_set, List.length_map]; first | done | omega)) only [AM.RB, Nat.reduceAdd, Nat.reduceMul, Nat.reduceEqDiff, reduceCtorEq, b46_PC9]
  refine AM.condV_split (fun hlt => ?_) (fun hlt => ?_)
  · have hk3 : k < 3 := by omega
    obtain ⟨kk, hkk⟩ : ∃ kk : Int, ((k + 1 : Nat) : Int) = kk := ⟨_, rfl⟩
    have hkk0 : kk ≠ 0 := by omega
    (repeat' (first | (simp (maxSteps := 1000000) (disch := first | omega | (simp only [AM.DB, List.length_set, List.length_map]; first | done | omega)) only [AM.RB, Nat.reduceAdd, Nat.reduceMul, Nat.reduceEqDiff, reduceCtorEq, b46_PC9]) | refine AM.build_w ?_))
    refine AM.loop_w hp 46 (fun q : Nat × Option Addr × Nat => [(0, pv p), (3, pv h.next), (5, .slice q.2.1 (stepsKs L s k ++ stepsKn L s kk q.1).length q.2.2), (6, .int .i64 ((k + 1 : Nat) : Int)), (7, .int .i64 q.1)])
      (fun q h' => q.1 ≤ s.1.length ∧ StepsO h1 h' (.slice q.2.1 (stepsKs L s k ++ stepsKn L s kk q.1).length q.2.2) (stepsKs L s k ++ stepsKn L s kk q.1)) (fun q => s.1.length - q.1) (by kernel_rfl) (0, ka, kc) ?_ ?_ ?_
    · simp (maxSteps := 1000000) (disch := first | omega | (simp only [AM.DB, List.length_set, List.length_map]; first | done | omega)) only [AM.RB, Nat.reduceAdd, Nat.reduceMul, Nat.reduceEqDiff, reduceCtorEq, b46_PC9]
      have e : stepsKs L s k ++ stepsKn L s kk 0 = stepsKs L s k := List.append_nil _
      simp only [e]
      first | rfl | skip
    · have e : stepsKs L s k ++ stepsKn L s kk 0 = stepsKs L s k := List.append_nil _
      simp only [e]
      exact ⟨Nat.zero_le _, fr2, o2, hid2⟩
    rintro ⟨t, ta, tc⟩ h3 ρ ⟨ht, fr3, o3, hid3⟩
    simp only at ht o3 hid3 ⊢
    have fr13 := fr1.trans fr3
    have g13 := g1.fr0 fr3
    simp (maxSteps := 1000000) (disch := first | omega | (simp only [AM.DB, List.length_set, List.length_map]; first | done | omega)) only [AM.RB, Nat.reduceAdd, Nat.reduceMul, Nat.reduceEqDiff, reduceCtorEq, b46_PC9, g13]
    refine AM.condV_split (fun hltt => ?_) (fun hltt => ?_)
    · have ht3 : t < s.1.length := by omega
      (repeat' (first | (simp (maxSteps := 1000000) (disch := first | omega | (simp only [AM.DB, List.length_set, List.length_map]; first | done | omega)) only [AM.RB, Nat.reduceAdd, Nat.reduceMul, Nat.reduceEqDiff, reduceCtorEq, b46_PC9]) | refine AM.build_w ?_))
      refine AM.loop_w hp 46 (fun q : Nat × Option Addr × Nat => [(0, pv p), (3, pv h.next), (5, .slice q.2.1 (stepsKs L s k ++ stepsKn L s kk t ++ refR L s kk t q.1).length q.2.2), (6, .int .i64 ((k + 1 : Nat) : Int)), (7, .int .i64 t), (8, .int .i64 q.1)])
        (fun q h' => q.1 ≤ L.flatten.length ∧ StepsO h1 h' (.slice q.2.1 (stepsKs L s k ++ stepsKn L s kk t ++ refR L s kk t q.1).length q.2.2) (stepsKs L s k ++ stepsKn L s kk t ++ refR L s kk t q.1)) (fun q => L.flatten.length - q.1) (by kernel_rfl) (0, ta, tc) ?_ ?_ ?_
      · simp (maxSteps := 1000000) (disch := first | omega | (simp only [AM.DB, List.length_set, List.length_map]; first | done | omega)) only [AM.RB, Nat.reduceAdd, Nat.reduceMul, Nat.reduceEqDiff, reduceCtorEq, b46_PC9]
        have e : stepsKs L s k ++ stepsKn L s kk t ++ refR L s kk t 0 = stepsKs L s k ++ stepsKn L s kk t := List.append_nil _
        simp only [e]
        first | rfl | skip
      · have e : stepsKs L s k ++ stepsKn L s kk t ++ refR L s kk t 0 = stepsKs L s k ++ stepsKn L s kk t := List.append_nil _
        simp only [e]
        exact ⟨Nat.zero_le _, fr3, o3, hid3⟩
      rintro ⟨c, ca, cc⟩ h4 ρ ⟨hcl, fr4, o4, hid4⟩
      simp only at hcl o4 hid4 ⊢
      have fr14 := fr1.trans fr4
      have g14 := g1.fr0 fr4
      have nx4 := fr4.next
      have lw4 := fr4.low
      (repeat' (first | (simp (maxSteps := 1000000) (disch := first | omega | (simp only [AM.DB, List.length_set, List.length_map]; first | done | omega)) only [AM.RB, Nat.reduceAdd, Nat.reduceMul, Nat.reduceEqDiff, reduceCtorEq, b46_PC9]) | refine AM.build_w ?_))
      refine refCells_w (r.fr0 fr14) G.rows hbd ?_
      (repeat' (first | (simp (maxSteps := 1000000) (disch := first | omega | (simp only [AM.DB, List.length_set, List.length_map]; first | done | omega)) only [AM.RB, Nat.reduceAdd, Nat.reduceMul, Nat.reduceEqDiff, reduceCtorEq, b46_PC9]) | refine AM.build_w ?_))
      refine AM.condV_split (fun hltc => ?_) (fun hltc => ?_)
      · have hcK : c < L.flatten.length := by omega
        have hlen0 : (stepsKs L s k ++ stepsKn L s kk t ++ refR L s kk t c).length ≤ 3 * (64 * 1024) + 64 * 1024 + 1024 := by
          rw [List.length_append, List.length_append]
          have := lenK k (by omega)
          have := lenR kk t (by omega)
          have := refR_len L s kk t c
          omega
        have hsucc := refR_succ L s kk t c
        (repeat' (first | (simp (maxSteps := 1000000) (disch := first | omega | (simp only [AM.DB, List.length_set, List.length_map]; first | done | omega)) only [AM.RB, Nat.reduceAdd, Nat.reduceMul, Nat.reduceEqDiff, reduceCtorEq, b46_PC9, g14]) | refine AM.build_w ?_))
        generalize hE_ : AHeap.put (AHeap.alloc h4 _) _ _ = h5; obtain ⟨g5, fr5, n5, l5⟩ := AM.box_get hE_ (by omega); clear hE_
        have g15 := g14.fr0 fr5
        have nx5 := fr5.next
        have lw5 := fr5.low
        have lw1 := fr1.low
        have fr15 := fr14.trans fr5
        (repeat' (first | (simp (maxSteps := 1000000) (disch := first | omega | (simp only [AM.DB, List.length_set, List.length_map]; first | done | omega)) only [AM.RB, Nat.reduceAdd, Nat.reduceMul, Nat.reduceEqDiff, reduceCtorEq, b46_PC9, g15, g5]) | refine AM.build_w ?_))
        refine refDo_w (x := (((k + 1 : Nat) : Int), (t : Int), (c : Int))) (r.fr0 fr15) G (hs.fr0 fr15) (by omega) (by omega) (by omega) fun a1 m1 c1 a2 m2 c2 h6 fr6 _ => ?_
        rw [hc, Bool.true_and, hkk]
        have nx6 := fr6.next
        have lw6 := fr6.low
        (repeat' (first | (simp (maxSteps := 1000000) (disch := first | omega | (simp only [AM.DB, List.length_set, List.length_map]; first | done | omega)) only [AM.RB, Nat.reduceAdd, Nat.reduceMul, Nat.reduceEqDiff, reduceCtorEq, b46_PC9]) | refine AM.build_w ?_))
        generalize hE_ : AHeap.put (AHeap.alloc h6 _) _ _ = h7; obtain ⟨g7, fr7, n7, l7⟩ := AM.box_get hE_ (by omega); clear hE_
        have nx7 := fr7.next
        have lw7 := fr7.low
        have fr47 := (fr5.trans fr6).trans fr7
        have o7 := o4.fr0 fr47
        cases hm : may L s (kk, (t : Int), (c : Int))
        · rw [hm, if_neg (by decide), List.append_nil] at hsucc
          (repeat' (first | (simp (maxSteps := 1000000) (disch := first | omega | (simp only [AM.DB, List.length_set, List.length_map]; first | done | omega)) only [AM.RB, Nat.reduceAdd, Nat.reduceMul, Nat.reduceEqDiff, reduceCtorEq, b46_PC9, AM.wrap_i64]) | refine AM.build_w ?_))
          refine ⟨(c + 1, ca, cc), by simp only; omega, ?_⟩
          simp only [hsucc]
          exact ⟨⟨trivial, congrArg _ (by omega)⟩, by omega, fr4.trans fr47, o7, hid4⟩
        · rw [hm, if_pos rfl] at hsucc
          have hx_1 := (g5.fr0 fr6).fr0 fr7
          (repeat' (first | (simp (maxSteps := 1000000) (disch := first | omega | (simp only [AM.DB, List.length_set, List.length_map]; first | done | omega)) only [AM.RB, Nat.reduceAdd, Nat.reduceMul, Nat.reduceEqDiff, reduceCtorEq, b46_PC9, hx_1]) | refine AM.build_w ?_))
          generalize hE_ : AHeap.alloc h7 _ = h8; obtain ⟨g8, fr8, n8, l8⟩ := AM.new_get hE_; clear hE_
          have nx8 := fr8.next
          have lw8 := fr8.low
          refine AM.appends_w ap_70 ap_70 (o7.fr0 fr8) (AM.Rd.whole (n := 1) (c := encS (((k + 1 : Nat) : Int), (t : Int), (c : Int))) g8 rfl) rfl (by omega) (AM.fits (by omega) (by omega)) (AM.fits' (by omega)) fun v' h9 o9 fr9 hid9 => ?_
          obtain ⟨na, nc, rfl⟩ := o9.form
          have fr19 : Fr none' h1 h9 := Fr.fresh ((fr4.trans fr47).trans fr8) fr9 hid4
          (repeat' (first | (simp (maxSteps := 1000000) (disch := first | omega | (simp only [AM.DB, List.length_set, List.length_map]; first | done | omega)) only [AM.RB, Nat.reduceAdd, Nat.reduceMul, Nat.reduceEqDiff, reduceCtorEq, b46_PC9, AM.wrap_i64]) | refine AM.build_w ?_))
          have hl1 : (stepsKs L s k ++ stepsKn L s kk t ++ refR L s kk t (c + 1)).length = (stepsKs L s k ++ stepsKn L s kk t ++ refR L s kk t c).length + 1 := by
            rw [hsucc, ← List.append_assoc, List.length_append]; rfl
          refine ⟨(c + 1, na, nc), by simp only; omega, ?_⟩
          simp only [hl1]
          refine ⟨⟨trivial, congrArg _ (by omega)⟩, by omega, fr19, ?_, fun id q => ?_⟩
          · rw [hl1, hsucc, ← List.append_assoc, List.flatMap_append]
            rw [hkk] at o9
            simpa using o9
          · rcases hid9 id q with q' | q'
            · exact hid4 id q'
            · omega
      · obtain rfl : c = L.flatten.length := by omega
        rw [refR_eq hkk0, List.append_assoc, ← stepsKn_succ] at o4 hid4 ⊢
        (repeat' (first | (simp (maxSteps := 1000000) (disch := first | omega | (simp only [AM.DB, List.length_set, List.length_map]; first | done | omega)) only [AM.RB, Nat.reduceAdd, Nat.reduceMul, Nat.reduceEqDiff, reduceCtorEq, b46_PC9, AM.wrap_i64]) | refine AM.build_w ?_))
        exact ⟨(t + 1, ca, cc), by simp only; omega, ⟨rfl, congrArg _ (by omega)⟩, by omega, fr4, o4, hid4⟩
    · obtain rfl : t = s.1.length := by omega
      have e : stepsKs L s k ++ stepsKn L s kk s.1.length = stepsKs L s (k + 1) := by rw [stepsKs, hkk]; rfl
      rw [e] at o3 hid3 ⊢
      (repeat' (first | (simp (maxSteps := 1000000) (disch := first | omega | (simp only [AM.DB, List.length_set, List.length_map]; first | done | omega)) only [AM.RB, Nat.reduceAdd, Nat.reduceMul, Nat.reduceEqDiff, reduceCtorEq, b46_PC9, AM.wrap_i64]) | refine AM.build_w ?_))
      exact ⟨(k + 1, ta, tc), by simp only; omega, ⟨rfl, congrArg _ (by omega)⟩, by omega, fr3, o3, hid3⟩
  · obtain rfl : k = 3 := by omega
    rw [stepsKs_3] at o2 hid2 ⊢
    (repeat' (first | (simp (maxSteps := 1000000) (disch := first | omega | (simp only [AM.DB, List.length_set, List.length_map]; first | done | omega)) only [AM.RB, Nat.reduceAdd, Nat.reduceMul, Nat.reduceEqDiff, reduceCtorEq, b46_PC9]) | refine AM.build_w ?_))
    exact hq _ _ ⟨fr1.trans fr2, o2, fun id q => by have := hid2 id q; have := fr1.next; omega⟩

end Go.Proofs.YtbaohngkapmhlaaDoor

namespace Go.Proofs.YtbaohngkapmhlaaDoor
open Go.AM
set_option maxRecDepth 8000
theorem b42_PC10 : type_of% (And.intro (@AM.alK_some) (And.intro (@al_59) (And.intro (@al_65) (And.intro (@AM.bdV_some) (And.intro (@bd_65) (And.intro (@AM.bin_add) (And.intro (@AM.bin_lss) (And.intro (@AM.boxK_agg) (And.intro (@AM.boxK_bool) (And.intro (@AM.boxK_func) (And.intro (@AM.boxK_int) (And.intro (@AM.boxK_map) (And.intro (@AM.boxK_pointer) (And.intro (@AM.boxK_slice) (And.intro (@AM.boxK_string) (And.intro (@AM.ex_tuple) (And.intro (@AM.fillL_cons) (And.intro (@AM.fillL_nil) (And.intro (@AM.fillS_agg) (And.intro (@AM.fillS_bool) (And.intro (@AM.fillS_func) (And.intro (@AM.fillS_int) (And.intro (@AM.fillS_map) (And.intro (@AM.fillS_pointer) (And.intro (@AM.fillS_slice) (And.intro (@AM.fillS_string) (And.intro (@AM.iaO_ok) (And.intro (AM.ia_slice el_70) (And.intro (@AM.ldO_agg) (And.intro (@AM.ldO_one) (And.intro (@AM.ld_ptr) (And.intro (AM.len_slice ul_70) (And.intro (@lk_59) (And.intro (@lk_65) (And.intro (@AM.op_alloc) (And.intro (@AM.op_binOp) (And.intro (@AM.op_box) (And.intro (@AM.op_build) (And.intro (@AM.op_call) (And.intro (@AM.op_extract) (And.intro (@AM.op_indexAddr) (And.intro (@AM.op_len) (And.intro (@AM.op_load) (And.intro (@AM.op_store) (And.intro (@AM.op_unOp) (And.intro (@AM.resL_two) (And.intro (@AM.res_cell) (And.intro (@AM.stO_agg) (And.intro (@AM.stO_bool) (And.intro (@AM.stO_int) (And.intro (@AM.stO_map) (And.intro (@AM.stO_pointer) (And.intro (@AM.stO_slice) (And.intro (@AM.stO_string) (And.intro (@AM.st_ptr) (And.intro (@sz_59) (And.intro (@sz_65) (And.intro (@AM.un_neg) (@AM.un_not))))))))))))))))))))))))))))))))))))))))))))))))))))))))))) := And.intro (@AM.alK_some) (And.intro (@al_59) (And.intro (@al_65) (And.intro (@AM.bdV_some) (And.intro (@bd_65) (And.intro (@AM.bin_add) (And.intro (@AM.bin_lss) (And.intro (@AM.boxK_agg) (And.intro (@AM.boxK_bool) (And.intro (@AM.boxK_func) (And.intro (@AM.boxK_int) (And.intro (@AM.boxK_map) (And.intro (@AM.boxK_pointer) (And.intro (@AM.boxK_slice) (And.intro (@AM.boxK_string) (And.intro (@AM.ex_tuple) (And.intro (@AM.fillL_cons) (And.intro (@AM.fillL_nil) (And.intro (@AM.fillS_agg) (And.intro (@AM.fillS_bool) (And.intro (@AM.fillS_func) (And.intro (@AM.fillS_int) (And.intro (@AM.fillS_map) (And.intro (@AM.fillS_pointer) (And.intro (@AM.fillS_slice) (And.intro (@AM.fillS_string) (And.intro (@AM.iaO_ok) (And.intro (AM.ia_slice el_70) (And.intro (@AM.ldO_agg) (And.intro (@AM.ldO_one) (And.intro (@AM.ld_ptr) (And.intro (AM.len_slice ul_70) (And.intro (@lk_59) (And.intro (@lk_65) (And.intro (@AM.op_alloc) (And.intro (@AM.op_binOp) (And.intro (@AM.op_box) (And.intro (@AM.op_build) (And.intro (@AM.op_call) (And.intro (@AM.op_extract) (And.intro (@AM.op_indexAddr) (And.intro (@AM.op_len) (And.intro (@AM.op_load) (And.intro (@AM.op_store) (And.intro (@AM.op_unOp) (And.intro (@AM.resL_two) (And.intro (@AM.res_cell) (And.intro (@AM.stO_agg) (And.intro (@AM.stO_bool) (And.intro (@AM.stO_int) (And.intro (@AM.stO_map) (And.intro (@AM.stO_pointer) (And.intro (@AM.stO_slice) (And.intro (@AM.stO_string) (And.intro (@AM.st_ptr) (And.intro (@sz_59) (And.intro (@sz_65) (And.intro (@AM.un_neg) (@AM.un_not))))))))))))))))))))))))))))))))))))))))))))))))))))))))))


set_option maxHeartbeats 8000000 in
theorem refBetween_w {h : AHeap} {p : Nat} {lv : Value} {L : List (List UInt8)} {l : List UInt8} {va vb : Value} {a b : St} (r : Rp h p lv L) (G : Good l L) (ha : StR h va a) (hb : StR h vb b) (hl : h.low ≤ h.next) (ha1 : a.1.length ≤ 4000000) (ha2 : a.2.length ≤ 4000000) {Q : VQ}
    (hq : ∀ h', Fr none' h h' → Q (.tuple #[spV (betw L a b).1, .int .i64 (betw L a b).2]) h') : W 42 [pv p, va, vb] h Q := by
  have hK := G.fit.k1024
  obtain ⟨a1, a2, rfl, ra1, ra2⟩ := id ha
  obtain ⟨a1a, a1c, rfl⟩ := ra1.form
  obtain ⟨a2a, a2c, rfl⟩ := ra2.form
  obtain ⟨b1, b2, rfl, rb1, rb2⟩ := id hb
  obtain ⟨b1a, b1c, rfl⟩ := rb1.form
  obtain ⟨b2a, b2c, rfl⟩ := rb2.form
  refine AM.enter hp (fn := Tryd.f42) (rs := [.cell 6 65, .tmp 7]) (nt := 62) (by kernel_rfl) Tryd.func42 rfl rfl rfl (by kernel_rfl) ?_
  simp (maxSteps := 1000000) (disch := first | omega | (simp only [AM.DB, List.length_set, List.length_map]; first | done | omega)) only [AM.RB, Nat.reduceAdd, Nat.reduceMul, Nat.reduceEqDiff, reduceCtorEq, b42_PC10]
  generalize hE_ : AHeap.alloc h _ = h1; obtain ⟨g1, fr1, n1, l1⟩ := AM.new_get hE_; clear hE_
  generalize hE_ : AHeap.alloc h1 _ = h2; obtain ⟨g2, fr2, n2, l2⟩ := AM.new_get hE_; clear hE_
  rw [n1] at g2
  generalize hE_ : AHeap.alloc h2 _ = h3; obtain ⟨g3, fr3, n3, l3⟩ := AM.new_get hE_; clear hE_
  rw [n2, n1] at g3
  have g13 := (g1.fr0 fr2).fr0 fr3
  have g23 := g2.fr0 fr3
  have fr03 := (fr1.trans fr2).trans fr3
  have nx3 := fr03.next
  have lw3 := fr03.low
  (repeat' (first | (simp (maxSteps := 1000000) (disch := first | omega | (simp only [AM.DB, List.length_set, List.length_map]; first | done | omega)) only [AM.RB, Nat.reduceAdd, Nat.reduceMul, Nat.reduceEqDiff, reduceCtorEq, b42_PC10, g13]) | refine AM.drawW_fine hp (by kernel_rfl) (by kernel_rfl) (by kernel_rfl) ?_ | refine AM.opW_tied (by kernel_rfl) ?_ | refine AM.opW_untied (by kernel_rfl) ?_ | refine AM.build_w ?_))
  refine refCheck_w (r.fr0 fr03) G (ha.fr0 fr03) (by omega) fun h4 fr4 => ?_
  have g14 := g13.fr0 fr4
  have g24 := g23.fr0 fr4
  have g34 := g3.fr0 fr4
  have nx4 := fr4.next
  have lw4 := fr4.low
  have fr04 := fr03.trans fr4
  (repeat' (first | (simp (maxSteps := 1000000) (disch := first | omega | (simp only [AM.DB, List.length_set, List.length_map]; first | done | omega)) only [AM.RB, Nat.reduceAdd, Nat.reduceMul, Nat.reduceEqDiff, reduceCtorEq, b42_PC10, g24]) | refine AM.drawW_fine hp (by kernel_rfl) (by kernel_rfl) (by kernel_rfl) ?_ | refine AM.opW_tied (by kernel_rfl) ?_ | refine AM.opW_untied (by kernel_rfl) ?_ | refine AM.build_w ?_))
  refine refCheck_w (r.fr0 fr04) G (hb.fr0 fr04) (by omega) fun h5 fr5 => ?_
  have g15 := g14.fr0 fr5
  have g25 := g24.fr0 fr5
  have g35 := g34.fr0 fr5
  have nx5 := fr5.next
  have lw5 := fr5.low
  have fr05 := fr04.trans fr5
  have err : ∀ h6 h7, Fr none' h h6 → Fr (fun id => id = h.next + 1 + 1) h6 h7 → betw L a b = ((0, 0, 0), 250) → Q (.tuple #[.agg #[.int .i64 0, .int .i64 0, .int .i64 0], .int .i64 250]) h7 := fun h6 h7 q1 q2 e => by
    rw [e] at hq
    exact hq _ (Fr.fresh q1 q2 (fun id e => by have e : id = h.next + 1 + 1 := e; omega))
  cases qa : chk L.flatten a
  · have e := betw_chk (b := b) (.inl qa)
    (repeat' (first | (simp (maxSteps := 1000000) (disch := first | omega | (simp only [AM.DB, List.length_set, List.length_map]; first | done | omega)) only [AM.RB, Nat.reduceAdd, Nat.reduceMul, Nat.reduceEqDiff, reduceCtorEq, b42_PC10, g35]) | refine AM.drawW_fine hp (by kernel_rfl) (by kernel_rfl) (by kernel_rfl) ?_ | refine AM.opW_tied (by kernel_rfl) ?_ | refine AM.opW_untied (by kernel_rfl) ?_ | refine AM.build_w ?_))
    generalize hE_ : AHeap.put h5 _ _ = h6; obtain ⟨g6, fr6, n6, l6⟩ := AM.put_get hE_ (by omega); clear hE_
    (repeat' (first | (simp (maxSteps := 1000000) (disch := first | omega | (simp only [AM.DB, List.length_set, List.length_map]; first | done | omega)) only [AM.RB, Nat.reduceAdd, Nat.reduceMul, Nat.reduceEqDiff, reduceCtorEq, b42_PC10, g6]) | refine AM.drawW_fine hp (by kernel_rfl) (by kernel_rfl) (by kernel_rfl) ?_ | refine AM.opW_tied (by kernel_rfl) ?_ | refine AM.opW_untied (by kernel_rfl) ?_ | refine AM.build_w ?_))
    exact err _ _ fr05 fr6 e
  cases qb : chk L.flatten b
  · have e := betw_chk (a := a) (.inr qb)
    (repeat' (first | (simp (maxSteps := 1000000) (disch := first | omega | (simp only [AM.DB, List.length_set, List.length_map]; first | done | omega)) only [AM.RB, Nat.reduceAdd, Nat.reduceMul, Nat.reduceEqDiff, reduceCtorEq, b42_PC10, g35]) | refine AM.drawW_fine hp (by kernel_rfl) (by kernel_rfl) (by kernel_rfl) ?_ | refine AM.opW_tied (by kernel_rfl) ?_ | refine AM.opW_untied (by kernel_rfl) ?_ | refine AM.build_w ?_))
    generalize hE_ : AHeap.put h5 _ _ = h6; obtain ⟨g6, fr6, n6, l6⟩ := AM.put_get hE_ (by omega); clear hE_
    (repeat' (first | (simp (maxSteps := 1000000) (disch := first | omega | (simp only [AM.DB, List.length_set, List.length_map]; first | done | omega)) only [AM.RB, Nat.reduceAdd, Nat.reduceMul, Nat.reduceEqDiff, reduceCtorEq, b42_PC10, g6]) | refine AM.drawW_fine hp (by kernel_rfl) (by kernel_rfl) (by kernel_rfl) ?_ | refine AM.opW_tied (by kernel_rfl) ?_ | refine AM.opW_untied (by kernel_rfl) ?_ | refine AM.build_w ?_))
    exact err _ _ fr05 fr6 e
  have ca := (chk_iff _ _).1 qa
  (repeat' (first | (simp (maxSteps := 1000000) (disch := first | omega | (simp only [AM.DB, List.length_set, List.length_map]; first | done | omega)) only [AM.RB, Nat.reduceAdd, Nat.reduceMul, Nat.reduceEqDiff, reduceCtorEq, b42_PC10, g15, g25]) | refine AM.drawW_fine hp (by kernel_rfl) (by kernel_rfl) (by kernel_rfl) ?_ | refine AM.opW_tied (by kernel_rfl) ?_ | refine AM.opW_untied (by kernel_rfl) ?_ | refine AM.build_w ?_))
  refine refSame_w (ha.fr0 fr05) (hb.fr0 fr05) (by omega) (by omega) fun h6 fr6 => ?_
  have g16 := g15.fr0 fr6
  have g26 := g25.fr0 fr6
  have g36 := g35.fr0 fr6
  have nx6 := fr6.next
  have lw6 := fr6.low
  have fr06 := fr05.trans fr6
  by_cases eab : a = b
  · have e : betw L a b = ((0, 0, 0), 0) := by rw [← eab]; exact betw_same ca
    rw [e] at hq
    (repeat' (first | (simp (maxSteps := 1000000) (disch := first | omega | (simp only [AM.DB, List.length_set, List.length_map]; first | done | omega)) only [AM.RB, Nat.reduceAdd, Nat.reduceMul, Nat.reduceEqDiff, reduceCtorEq, b42_PC10, decide_eq_true eab, g36]) | refine AM.drawW_fine hp (by kernel_rfl) (by kernel_rfl) (by kernel_rfl) ?_ | refine AM.opW_tied (by kernel_rfl) ?_ | refine AM.opW_untied (by kernel_rfl) ?_ | refine AM.build_w ?_))
    generalize hE_ : AHeap.put h6 _ _ = h7; obtain ⟨g7, fr7, n7, l7⟩ := AM.put_get hE_ (by omega); clear hE_
    (repeat' (first | (simp (maxSteps := 1000000) (disch := first | omega | (simp only [AM.DB, List.length_set, List.length_map]; first | done | omega)) only [AM.RB, Nat.reduceAdd, Nat.reduceMul, Nat.reduceEqDiff, reduceCtorEq, b42_PC10, g7]) | refine AM.drawW_fine hp (by kernel_rfl) (by kernel_rfl) (by kernel_rfl) ?_ | refine AM.opW_tied (by kernel_rfl) ?_ | refine AM.opW_untied (by kernel_rfl) ?_ | refine AM.build_w ?_))
    exact hq _ (Fr.fresh fr06 fr7 (fun id e => by have e : id = h.next + 1 + 1 := e; omega))
  (repeat' (first | (simp (maxSteps := 1000000) (disch := first | omega | (simp only [AM.DB, List.length_set, List.length_map]; first | done | omega)) only [AM.RB, Nat.reduceAdd, Nat.reduceMul, Nat.reduceEqDiff, reduceCtorEq, b42_PC10, decide_eq_false eab, g16]) | refine AM.drawW_fine hp (by kernel_rfl) (by kernel_rfl) (by kernel_rfl) ?_ | refine AM.opW_tied (by kernel_rfl) ?_ | refine AM.opW_untied (by kernel_rfl) ?_ | refine AM.build_w ?_))
  refine refSteps_w (r.fr0 fr06) G (ha.fr0 fr06) (by omega) qa fun v7 h7 ⟨fr7, o7, hid7⟩ => ?_
  obtain ⟨sa, sc, rfl⟩ := o7.form
  have nx7 := fr7.next
  have lw7 := fr7.low
  have fr07 := fr06.trans fr7
  have hll : (stepsL L a).length ≤ 3 * (64 * 1024) := by
    rw [← stepsKs_3]
    exact Nat.le_trans (stepsKs_len L a 3) (Nat.mul_le_mul_left _ (Nat.mul_le_mul ca.l64 hK))
  (repeat' (first | (simp (maxSteps := 1000000) (disch := first | omega | (simp only [AM.DB, List.length_set, List.length_map]; first | done | omega)) only [AM.RB, Nat.reduceAdd, Nat.reduceMul, Nat.reduceEqDiff, reduceCtorEq, b42_PC10]) | refine AM.drawW_fine hp (by kernel_rfl) (by kernel_rfl) (by kernel_rfl) ?_ | refine AM.opW_tied (by kernel_rfl) ?_ | refine AM.opW_untied (by kernel_rfl) ?_ | refine AM.build_w ?_))
  refine AM.loop_w hp 62 (fun i : Nat => [(0, pv p), (4, pv h.next), (5, pv (h.next + 1)), (6, pv (h.next + 1 + 1)), (11, .slice sa (stepsL L a).length sc), (12, .int .i64 i)])
    (fun i h' => i ≤ (stepsL L a).length ∧ Fr none' h7 h' ∧ ∀ j, j < i → turnS a ((stepsL L a).getD j (0, 0, 0)) ≠ b) (fun i => (stepsL L a).length - i) (by kernel_rfl) 0 ?_ ?_ ?_
  · simp (maxSteps := 1000000) (disch := first | omega | (simp only [AM.DB, List.length_set, List.length_map]; first | done | omega)) only [AM.RB, Nat.reduceAdd, Nat.reduceMul, Nat.reduceEqDiff, reduceCtorEq, b42_PC10]
    first | rfl | skip
  · exact ⟨Nat.zero_le _, Fr.refl _ _, fun j hj => by omega⟩
  rintro i h8 ρ ⟨hi, fr8, hno⟩
  have nx8 := fr8.next
  have lw8 := fr8.low
  have fr08 := fr07.trans fr8
  have g18 := (g16.fr0 fr7).fr0 fr8
  have g28 := (g26.fr0 fr7).fr0 fr8
  have g38 := (g36.fr0 fr7).fr0 fr8
  have r8 := (o7.fr0 fr8).rd
  simp (maxSteps := 1000000) (disch := first | omega | (simp only [AM.DB, List.length_set, List.length_map]; first | done | omega)) only [AM.RB, Nat.reduceAdd, Nat.reduceMul, Nat.reduceEqDiff, reduceCtorEq, b42_PC10]
  refine AM.condV_split (fun hlt => ?_) (fun hlt => ?_)
  · have hil : i < (stepsL L a).length := by omega
    obtain ⟨x, hx⟩ : ∃ x, (stepsL L a).getD i (0, 0, 0) = x := ⟨_, rfl⟩
    have hmem : x ∈ stepsL L a := by
      rw [← hx, List.getD, List.getElem?_eq_getElem hil]; exact List.getElem_mem hil
    have hmay := (may_iff _ _ _).2 (stepsL_mem hmem).2
    have ld := Rd.lds (f := encS) encS_len r8 lk_65 rfl (0, 0, 0) i hil
    rw [hx] at ld
    (repeat' (first | (simp (maxSteps := 1000000) (disch := first | omega | (simp only [AM.DB, List.length_set, List.length_map]; first | done | omega)) only [AM.RB, Nat.reduceAdd, Nat.reduceMul, Nat.reduceEqDiff, reduceCtorEq, b42_PC10, g18, r8.ia el_70, ld, Int.toNat_natCast]) | refine AM.drawW_fine hp (by kernel_rfl) (by kernel_rfl) (by kernel_rfl) ?_ | refine AM.opW_tied (by kernel_rfl) ?_ | refine AM.opW_untied (by kernel_rfl) ?_ | refine AM.build_w ?_))
    refine refDo_w (x := x) (r.fr0 fr08) G (ha.fr0 fr08) (by omega) (by omega) (by omega) fun c1 m1 d1 c2 m2 d2 h9 fr9 st9 => ?_
    rw [qa, hmay, Bool.true_and] at st9 ⊢
    have st9 := st9 rfl
    have nx9 := fr9.next
    have lw9 := fr9.low
    have hx_1 := g28.fr0 fr9
    (repeat' (first | (simp (maxSteps := 1000000) (disch := first | omega | (simp only [AM.DB, List.length_set, List.length_map]; first | done | omega)) only [AM.RB, Nat.reduceAdd, Nat.reduceMul, Nat.reduceEqDiff, reduceCtorEq, b42_PC10, hx_1]) | refine AM.drawW_fine hp (by kernel_rfl) (by kernel_rfl) (by kernel_rfl) ?_ | refine AM.opW_tied (by kernel_rfl) ?_ | refine AM.opW_untied (by kernel_rfl) ?_ | refine AM.build_w ?_))
    generalize hE_ : AHeap.put (AHeap.alloc h9 _) _ _ = h10; obtain ⟨g10, fr10, n10, l10⟩ := AM.box_get hE_ (by omega); clear hE_
    have fr8a := fr9.trans fr10
    have fr0a := fr08.trans fr8a
    have hx_2 := g28.fr0 fr8a
    (repeat' (first | (simp (maxSteps := 1000000) (disch := first | omega | (simp only [AM.DB, List.length_set, List.length_map]; first | done | omega)) only [AM.RB, Nat.reduceAdd, Nat.reduceMul, Nat.reduceEqDiff, reduceCtorEq, b42_PC10, g10, hx_2]) | refine AM.drawW_fine hp (by kernel_rfl) (by kernel_rfl) (by kernel_rfl) ?_ | refine AM.opW_tied (by kernel_rfl) ?_ | refine AM.opW_untied (by kernel_rfl) ?_ | refine AM.build_w ?_))
    have tl := turnS_len a x
    refine refSame_w ((st9.fr0 fr10).rd) (hb.fr0 fr0a) (by omega) (by omega) fun h11 fr11 => ?_
    have nx10 := fr10.next
    have nx11 := fr11.next
    have lw11 := fr11.low
    have fr8b := fr8a.trans fr11
    by_cases et : turnS a x = b
    · have e := betw_find ca hmem et
      rw [e] at hq
      have r11 := r8.fr0 fr8b
      have ld11 := Rd.lds (f := encS) encS_len r11 lk_65 rfl (0, 0, 0) i hil
      rw [hx] at ld11
      have hx_3 := g38.fr0 fr8b
      (repeat' (first | (simp (maxSteps := 1000000) (disch := first | omega | (simp only [AM.DB, List.length_set, List.length_map]; first | done | omega)) only [AM.RB, Nat.reduceAdd, Nat.reduceMul, Nat.reduceEqDiff, reduceCtorEq, b42_PC10, hx_3, decide_eq_true et, r11.ia el_70, ld11, Int.toNat_natCast]) | refine AM.drawW_fine hp (by kernel_rfl) (by kernel_rfl) (by kernel_rfl) ?_ | refine AM.opW_tied (by kernel_rfl) ?_ | refine AM.opW_untied (by kernel_rfl) ?_ | refine AM.build_w ?_))
      generalize hE_ : AHeap.put h11 _ _ = h12; obtain ⟨g12, fr12, n12, l12⟩ := AM.put_get hE_ (by omega); clear hE_
      (repeat' (first | (simp (maxSteps := 1000000) (disch := first | omega | (simp only [AM.DB, List.length_set, List.length_map]; first | done | omega)) only [AM.RB, Nat.reduceAdd, Nat.reduceMul, Nat.reduceEqDiff, reduceCtorEq, b42_PC10, g12]) | refine AM.drawW_fine hp (by kernel_rfl) (by kernel_rfl) (by kernel_rfl) ?_ | refine AM.opW_tied (by kernel_rfl) ?_ | refine AM.opW_untied (by kernel_rfl) ?_ | refine AM.build_w ?_))
      exact hq _ (Fr.fresh (fr08.trans fr8b) fr12 (fun id e => by have e : id = h.next + 1 + 1 := e; omega))
    · (repeat' (first | (simp (maxSteps := 1000000) (disch := first | omega | (simp only [AM.DB, List.length_set, List.length_map]; first | done | omega)) only [AM.RB, Nat.reduceAdd, Nat.reduceMul, Nat.reduceEqDiff, reduceCtorEq, b42_PC10, decide_eq_false et, AM.wrap_i64]) | refine AM.drawW_fine hp (by kernel_rfl) (by kernel_rfl) (by kernel_rfl) ?_ | refine AM.opW_tied (by kernel_rfl) ?_ | refine AM.opW_untied (by kernel_rfl) ?_ | refine AM.build_w ?_))
      refine ⟨i + 1, by omega, congrArg _ (by omega), by omega, fr8.trans fr8b, fun j hj => ?_⟩
      by_cases ej : j = i
      · subst ej; rw [hx]; exact et
      · exact hno j (by omega)
  · have ei : i = (stepsL L a).length := by omega
    have e : betw L a b = ((0, 0, 0), 250) := betw_none eab fun x hx => by
      obtain ⟨j, hj, e⟩ := List.mem_iff_getElem.1 hx
      have := hno j (by omega)
      rw [List.getD, List.getElem?_eq_getElem hj, e] at this
      exact this
    (repeat' (first | (simp (maxSteps := 1000000) (disch := first | omega | (simp only [AM.DB, List.length_set, List.length_map]; first | done | omega)) only [AM.RB, Nat.reduceAdd, Nat.reduceMul, Nat.reduceEqDiff, reduceCtorEq, b42_PC10, g38]) | refine AM.drawW_fine hp (by kernel_rfl) (by kernel_rfl) (by kernel_rfl) ?_ | refine AM.opW_tied (by kernel_rfl) ?_ | refine AM.opW_untied (by kernel_rfl) ?_ | refine AM.build_w ?_))
    generalize hE_ : AHeap.put h8 _ _ = h9; obtain ⟨g9, fr9, n9, l9⟩ := AM.put_get hE_ (by omega); clear hE_
    (repeat' (first | (simp (maxSteps := 1000000) (disch := first | omega | (simp only [AM.DB, List.length_set, List.length_map]; first | done | omega)) only [AM.RB, Nat.reduceAdd, Nat.reduceMul, Nat.reduceEqDiff, reduceCtorEq, b42_PC10, g9]) | refine AM.drawW_fine hp (by kernel_rfl) (by kernel_rfl) (by kernel_rfl) ?_ | refine AM.opW_tied (by kernel_rfl) ?_ | refine AM.opW_untied (by kernel_rfl) ?_ | refine AM.build_w ?_))
    exact err _ _ fr08 fr9 e

end Go.Proofs.YtbaohngkapmhlaaDoor

namespace Go.Proofs.YtbaohngkapmhlaaDoor
open Go.AM
set_option maxRecDepth 8000
theorem b41_PC4 : type_of% (And.intro (@AM.alK_some) (And.intro (@al_59) (And.intro (@al_65) (And.intro (@AM.bdV_some) (And.intro (@bd_65) (And.intro (@AM.bin_add) (And.intro (@AM.bin_eql) (And.intro (@AM.bin_geq) (And.intro (@AM.bin_lss) (And.intro (@AM.bin_neq) (And.intro (@AM.boxK_agg) (And.intro (@AM.boxK_bool) (And.intro (@AM.boxK_func) (And.intro (@AM.boxK_int) (And.intro (@AM.boxK_map) (And.intro (@AM.boxK_pointer) (And.intro (@AM.boxK_slice) (And.intro (@AM.boxK_string) (And.intro (AM.bsW_agg bs_136) (And.intro (AM.bsW_nil bs_136) (And.intro (@AM.ex_tuple) (And.intro (@AM.fa_ptr) (And.intro (@fd_59_0) (And.intro (@fd_59_1) (And.intro (@AM.fillL_cons) (And.intro (@AM.fillL_nil) (And.intro (@AM.fillS_agg) (And.intro (@AM.fillS_bool) (And.intro (@AM.fillS_func) (And.intro (@AM.fillS_int) (And.intro (@AM.fillS_map) (And.intro (@AM.fillS_pointer) (And.intro (@AM.fillS_slice) (And.intro (@AM.fillS_string) (And.intro (@AM.iaO_ok) (And.intro (AM.ia_slice el_136) (And.intro (AM.ia_slice el_22) (And.intro (@AM.ldO_agg) (And.intro (@AM.ldO_one) (And.intro (@AM.ld_ptr) (And.intro (AM.len_slice ul_136) (And.intro (AM.len_slice ul_22) (And.intro (@lk_22) (And.intro (@lk_3) (And.intro (@lk_59) (And.intro (@lk_65) (And.intro (@AM.op_alloc) (And.intro (@AM.op_binOp) (And.intro (@AM.op_box) (And.intro (@AM.op_build) (And.intro (@AM.op_buildSlice) (And.intro (@AM.op_call) (And.intro (@AM.op_extract) (And.intro (@AM.op_fieldAddr) (And.intro (@AM.op_indexAddr) (And.intro (@AM.op_len) (And.intro (@AM.op_load) (And.intro (@AM.op_store) (And.intro (@AM.op_unOp) (And.intro (@AM.resL_two) (And.intro (@AM.res_cell) (And.intro (@AM.stO_agg) (And.intro (@AM.stO_bool) (And.intro (@AM.stO_int) (And.intro (@AM.stO_map) (And.intro (@AM.stO_pointer) (And.intro (@AM.stO_slice) (And.intro (@AM.stO_string) (And.intro (@AM.st_ptr) (And.intro (@sz_59) (And.intro (@sz_65) (And.intro (@AM.un_neg) (@AM.un_not))))))))))))))))))))))))))))))))))))))))))))))))))))))))))))))))))))))))) := And.intro (@AM.alK_some) (And.intro (@al_59) (And.intro (@al_65) (And.intro (@AM.bdV_some) (And.intro (@bd_65) (And.intro (@AM.bin_add) (And.intro (@AM.bin_eql) (And.intro (@AM.bin_geq) (And.intro (@AM.bin_lss) (And.intro (@AM.bin_neq) (And.intro (@AM.boxK_agg) (And.intro (@AM.boxK_bool) (And.intro (@AM.boxK_func) (And.intro (@AM.boxK_int) (And.intro (@AM.boxK_map) (And.intro (@AM.boxK_pointer) (And.intro (@AM.boxK_slice) (And.intro (@AM.boxK_string) (And.intro (AM.bsW_agg bs_136) (And.intro (AM.bsW_nil bs_136) (And.intro (@AM.ex_tuple) (And.intro (@AM.fa_ptr) (And.intro (@fd_59_0) (And.intro (@fd_59_1) (And.intro (@AM.fillL_cons) (And.intro (@AM.fillL_nil) (And.intro (@AM.fillS_agg) (And.intro (@AM.fillS_bool) (And.intro (@AM.fillS_func) (And.intro (@AM.fillS_int) (And.intro (@AM.fillS_map) (And.intro (@AM.fillS_pointer) (And.intro (@AM.fillS_slice) (And.intro (@AM.fillS_string) (And.intro (@AM.iaO_ok) (And.intro (AM.ia_slice el_136) (And.intro (AM.ia_slice el_22) (And.intro (@AM.ldO_agg) (And.intro (@AM.ldO_one) (And.intro (@AM.ld_ptr) (And.intro (AM.len_slice ul_136) (And.intro (AM.len_slice ul_22) (And.intro (@lk_22) (And.intro (@lk_3) (And.intro (@lk_59) (And.intro (@lk_65) (And.intro (@AM.op_alloc) (And.intro (@AM.op_binOp) (And.intro (@AM.op_box) (And.intro (@AM.op_build) (And.intro (@AM.op_buildSlice) (And.intro (@AM.op_call) (And.intro (@AM.op_extract) (And.intro (@AM.op_fieldAddr) (And.intro (@AM.op_indexAddr) (And.intro (@AM.op_len) (And.intro (@AM.op_load) (And.intro (@AM.op_store) (And.intro (@AM.op_unOp) (And.intro (@AM.resL_two) (And.intro (@AM.res_cell) (And.intro (@AM.stO_agg) (And.intro (@AM.stO_bool) (And.intro (@AM.stO_int) (And.intro (@AM.stO_map) (And.intro (@AM.stO_pointer) (And.intro (@AM.stO_slice) (And.intro (@AM.stO_string) (And.intro (@AM.st_ptr) (And.intro (@sz_59) (And.intro (@sz_65) (And.intro (@AM.un_neg) (@AM.un_not))))))))))))))))))))))))))))))))))))))))))))))))))))))))))))))))))))))))


theorem partV_lt {a b : List Int} {n : Nat} (h : 0 ≤ (partV (diffs a b n)).1) : ∃ i : Nat, (partV (diffs a b n)).1 = i ∧ i < n := by
  have hm : ∀ i, i ∈ diffs a b n → i < n := fun i q => (diffs_mem.1 q).1
  generalize diffs a b n = l at *
  match l, h, hm with
  | [], h, _ => exact absurd h (by decide)
  | [i], _, hm => exact ⟨i, rfl, hm i (by simp)⟩
  | i :: _ :: _, _, hm => exact ⟨i, rfl, hm i (by simp)⟩
theorem Mk.sub {h : AHeap} {p : Nat} {L : List (List UInt8)} {B C : Nat → Prop} (m : Mk h p L B) (hC : ∀ id, C id → B id) : Mk h p L C := by
  obtain ⟨⟨S, m, hB⟩, hb⟩ := m
  exact ⟨⟨S, m, fun id q => hB id (hC id q)⟩, fun id q => hb id (hC id q)⟩
/-- New ones are none of a map's own. -/
theorem Mk.fresh {h : AHeap} {p : Nat} {L : List (List UInt8)} {B : Nat → Prop} (m : Mk h p L B) {h' : AHeap} (fr : Fr none' h h') : Mk h' p L (fun id => B id ∨ (h.next ≤ id ∧ id < h'.next)) := m.more fr fun id q => q
def stAt (a b : St) (i : Nat) : St := if i = 0 then a else b
set_option maxHeartbeats 8000000 in
theorem between_w {h : AHeap} {p : Nat} {L : List (List UInt8)} {B : Nat → Prop} {va vb : Value} {a b : St} (m : Mk h p L B) (f : Fit L) (hw : h.get GW = some (.cells waysC 166 false)) (hgl : GW < h.low) (hl : h.low ≤ h.next) (ha : StR h va a) (hb : StR h vb b) (ha1 : a.1.length ≤ 4000000) (ha2 : a.2.length ≤ 4000000) {Q : VQ}
    (hq : ∀ h', Mk h' p L B → Fr (fun id => id = p) h h' → Q (.tuple #[spV (betw L a b).1, .int .i64 (betw L a b).2]) h') : W 41 [pv p, va, vb] h Q := by
  obtain ⟨a1, a2, rfl, ra1, ra2⟩ := ha
  obtain ⟨a1a, a1c, rfl⟩ := ra1.form
  obtain ⟨a2a, a2c, rfl⟩ := ra2.form
  obtain ⟨b1, b2, rfl, rb1, rb2⟩ := hb
  obtain ⟨b1a, b1c, rfl⟩ := rb1.form
  obtain ⟨b2a, b2c, rfl⟩ := rb2.form
  refine AM.enter hp (fn := Tryd.f41) (rs := [.cell 6 65, .tmp 7]) (nt := 130) (by kernel_rfl) Tryd.func41 rfl rfl rfl (by kernel_rfl) ?_
  simp (maxSteps := 1000000) (disch := first | omega | (simp only [AM.DB, List.length_set, List.length_map]; first | done | omega)) only [AM.RB, Nat.reduceAdd, Nat.reduceMul, Nat.reduceEqDiff, reduceCtorEq, b41_PC4]
  generalize hE_ : AHeap.alloc h _ = h1; obtain ⟨g1, fr1, n1, l1⟩ := AM.new_get hE_; clear hE_
  generalize hE_ : AHeap.alloc h1 _ = h2; obtain ⟨g2, fr2, n2, l2⟩ := AM.new_get hE_; clear hE_
  rw [n1] at g2
  generalize hE_ : AHeap.alloc h2 _ = h3; obtain ⟨g3, fr3, n3, l3⟩ := AM.new_get hE_; clear hE_
  rw [n2, n1] at g3
  have g13 := (g1.fr0 fr2).fr0 fr3
  have g23 := g2.fr0 fr3
  (repeat' (first | (simp (maxSteps := 1000000) (disch := first | omega | (simp only [AM.DB, List.length_set, List.length_map]; first | done | omega)) only [AM.RB, Nat.reduceAdd, Nat.reduceMul, Nat.reduceEqDiff, reduceCtorEq, b41_PC4, g13, g23]) | refine AM.build_w ?_))
  rw [AM.bsW_agg2 bs_136 h3 _ [.slice a1a a.1.length a1c, .slice a2a a.2.length a2c] [.slice b1a b.1.length b1c, .slice b2a b.2.length b2c] rfl rfl (by omega) rfl rfl]
  generalize hE_ : AHeap.alloc h3 _ = h4; obtain ⟨g4, fr4, n4, l4⟩ := AM.new_get hE_; clear hE_
  have g14 := g13.fr0 fr4
  have g24 := g23.fr0 fr4
  have g34 := g3.fr0 fr4
  have fr04 := ((fr1.trans fr2).trans fr3).trans fr4
  have r4 : Rd h4 59 2 (.slice (some ⟨h3.next, 0, none⟩) 2 2) 2 [.slice a1a a.1.length a1c, .slice a2a a.2.length a2c, .slice b1a b.1.length b1c, .slice b2a b.2.length b2c] := AM.Rd.whole (n := 2) g4 rfl
  have m4 := m.fresh fr04
  (repeat' (first | (simp (maxSteps := 1000000) (disch := first | omega | (simp only [AM.DB, List.length_set, List.length_map]; first | done | omega)) only [AM.RB, Nat.reduceAdd, Nat.reduceMul, Nat.reduceEqDiff, reduceCtorEq, b41_PC4]) | refine AM.build_w ?_))
  refine AM.loop_w hp 130 (fun i : Nat => [(0, pv p), (4, pv h.next), (5, pv (h.next + 1)), (6, pv (h.next + 1 + 1)), (18, .slice (some ⟨h3.next, 0, none⟩) 2 2), (19, .int .i64 2), (20, .int .i64 i)])
    (fun i h' => i ≤ 2 ∧ Fr none' h4 h' ∧ (1 ≤ i → chk L.flatten a = true) ∧ (2 ≤ i → chk L.flatten b = true)) (fun i => 2 - i) (by kernel_rfl) 0 ?_ ?_ ?_
  · simp (maxSteps := 1000000) (disch := first | omega | (simp only [AM.DB, List.length_set, List.length_map]; first | done | omega)) only [AM.RB, Nat.reduceAdd, Nat.reduceMul, Nat.reduceEqDiff, reduceCtorEq, b41_PC4]
    first | rfl | skip
  · exact ⟨Nat.zero_le _, Fr.refl _ _, fun q => by omega, fun q => by omega⟩
  rintro i h5 ρ ⟨hi, fr5, ha5, hb5⟩
  simp (maxSteps := 1000000) (disch := first | omega | (simp only [AM.DB, List.length_set, List.length_map]; first | done | omega)) only [AM.RB, Nat.reduceAdd, Nat.reduceMul, Nat.reduceEqDiff, reduceCtorEq, b41_PC4]
  refine AM.condV_split (fun hlt => ?_) (fun hlt => ?_)
  · have r5 := r4.fr0 fr5
    have g15 := g14.fr0 fr5
    have g25 := g24.fr0 fr5
    have g35 := g34.fr0 fr5
    have fr05 := fr04.trans fr5
    have nx5 := fr5.next
    have lw5 := fr5.low
    have lw04 := fr04.low
    obtain ⟨x, y, hv, hsi⟩ : ∃ x y, (([.slice a1a a.1.length a1c, .slice a2a a.2.length a2c, .slice b1a b.1.length b1c, .slice b2a b.2.length b2c] : List Value).drop (i * 2)).take 2 = [x, y] ∧ StR h5 (.agg #[x, y]) (stAt a b i) := by
      obtain rfl | rfl : i = 0 ∨ i = 1 := by omega
      · exact ⟨_, _, rfl, _, _, rfl, ra1.fr0 fr05, ra2.fr0 fr05⟩
      · exact ⟨_, _, rfl, _, _, rfl, rb1.fr0 fr05, rb2.fr0 fr05⟩
    obtain ⟨x1, y1, e1, rx, ry⟩ := id hsi
    cases e1
    obtain ⟨xa, xc, rfl⟩ := rx.form
    obtain ⟨ya, yc, rfl⟩ := ry.form
    have ld := Rd.ldg r5 lk_59 i (by omega)
    rw [hv] at ld
    obtain ⟨_, _, mm5⟩ := (m.fr0 fr05).mp
    (repeat' (first | (simp (maxSteps := 1000000) (disch := first | omega | (simp only [AM.DB, List.length_set, List.length_map]; first | done | omega)) only [AM.RB, Nat.reduceAdd, Nat.reduceMul, Nat.reduceEqDiff, reduceCtorEq, b41_PC4, r5.ia el_136, ld, Int.toNat_natCast]) | refine AM.build_w ?_))
    generalize hE_ : AHeap.put (AHeap.alloc h5 _) _ _ = h6; obtain ⟨g6, fr6, n6, l6⟩ := AM.box_get hE_ (by omega); clear hE_
    (repeat' (first | (simp (maxSteps := 1000000) (disch := first | omega | (simp only [AM.DB, List.length_set, List.length_map]; first | done | omega)) only [AM.RB, Nat.reduceAdd, Nat.reduceMul, Nat.reduceEqDiff, reduceCtorEq, b41_PC4, g6]) | refine AM.build_w ?_))
    refine check_w (mm5.fr0 fr6) f (hsi.fr0 fr6) (by omega) fun h7 fr7 => ?_
    have fr57 := (fr5.trans fr6).trans fr7
    have nx57 := fr57.next
    have lw57 := fr57.low
    have g37 := g34.fr0 fr57
    have hsa : i = 0 → stAt a b i = a := fun e => by unfold stAt; rw [if_pos e]
    have hsb : i = 1 → stAt a b i = b := fun e => by unfold stAt; rw [if_neg (by omega)]
    cases hck : chk L.flatten (stAt a b i)
    · have d250 : decide ((250 : Int) = 0) = false := rfl
      have hbt : betw L a b = ((0, 0, 0), 250) := by
        unfold betw
        rw [if_neg]
        rintro ⟨q1, q2, _⟩
        obtain e | e : i = 0 ∨ i = 1 := by omega
        · rw [hsa e, q1] at hck; cases hck
        · rw [hsb e, q2] at hck; cases hck
      rw [hbt] at hq
      (repeat' (first | (simp (maxSteps := 1000000) (disch := first | omega | (simp only [AM.DB, List.length_set, List.length_map]; first | done | omega)) only [AM.RB, Nat.reduceAdd, Nat.reduceMul, Nat.reduceEqDiff, reduceCtorEq, b41_PC4, d250, g37]) | refine AM.build_w ?_))
      generalize hE_ : AHeap.put h7 _ _ = h8; obtain ⟨g8, fr8, n8, l8⟩ := AM.put_get hE_ (by omega); clear hE_
      (repeat' (first | (simp (maxSteps := 1000000) (disch := first | omega | (simp only [AM.DB, List.length_set, List.length_map]; first | done | omega)) only [AM.RB, Nat.reduceAdd, Nat.reduceMul, Nat.reduceEqDiff, reduceCtorEq, b41_PC4, g8]) | refine AM.build_w ?_))
      refine hq _ (((m4.fr0 fr57).frB fr8 (fun id e => .inr (by have e : id = h.next + 1 + 1 := e; omega))).sub fun id q => .inl q) ?_
      exact (Fr.fresh (fr04.trans fr57) fr8 (fun id e => by have e : id = h.next + 1 + 1 := e; omega)).mono fun _ _ q => q.elim
    · (repeat' (first | (simp (maxSteps := 1000000) (disch := first | omega | (simp only [AM.DB, List.length_set, List.length_map]; first | done | omega)) only [AM.RB, Nat.reduceAdd, Nat.reduceMul, Nat.reduceEqDiff, reduceCtorEq, b41_PC4, AM.wrap_i64]) | refine AM.build_w ?_))
      refine ⟨i + 1, by omega, congrArg _ (by omega), by omega, fr57, fun q => ?_, fun q => ?_⟩
      · by_cases e : i = 0
        · rw [hsa e] at hck; exact hck
        · exact ha5 (by omega)
      · by_cases e : i = 1
        · rw [hsb e] at hck; exact hck
        · omega
  · have ei : i = 2 := by omega
    have qa := ha5 (by omega)
    have qb := hb5 (by omega)
    have ca := (chk_iff _ _).1 qa
    have cb := (chk_iff _ _).1 qb
    have hl2 : a.2.length = b.2.length := by rw [ca.ln, cb.ln]
    have g15 := g14.fr0 fr5
    have g25 := g24.fr0 fr5
    have g35 := g34.fr0 fr5
    have fr05 := fr04.trans fr5
    have nx5 := fr5.next
    have lw5 := fr5.low
    have lw04 := fr04.low
    have pa1 := ra1.fr0 fr05
    have pa2 := ra2.fr0 fr05
    have pb1 := rb1.fr0 fr05
    have pb2 := rb2.fr0 fr05
    by_cases hlen : (a.1.length : Int) = b.1.length
    case neg =>
      have hbt : betw L a b = ((0, 0, 0), 250) := by
        unfold betw
        rw [if_neg]
        rintro ⟨_, _, q3⟩
        omega
      rw [hbt] at hq
      (repeat' (first | (simp (maxSteps := 1000000) (disch := first | omega | (simp only [AM.DB, List.length_set, List.length_map]; first | done | omega)) only [AM.RB, Nat.reduceAdd, Nat.reduceMul, Nat.reduceEqDiff, reduceCtorEq, b41_PC4, g15, g25, g35, decide_eq_false hlen]) | refine AM.build_w ?_))
      generalize hE_ : AHeap.put h5 _ _ = h8; obtain ⟨g8, fr8, n8, l8⟩ := AM.put_get hE_ (by omega); clear hE_
      (repeat' (first | (simp (maxSteps := 1000000) (disch := first | omega | (simp only [AM.DB, List.length_set, List.length_map]; first | done | omega)) only [AM.RB, Nat.reduceAdd, Nat.reduceMul, Nat.reduceEqDiff, reduceCtorEq, b41_PC4, g8]) | refine AM.build_w ?_))
      refine hq _ (((m4.fr0 fr5).frB fr8 (fun id e => .inr (by have e : id = h.next + 1 + 1 := e; omega))).sub fun id q => .inl q) ?_
      exact (Fr.fresh fr05 fr8 (fun id e => by have e : id = h.next + 1 + 1 := e; omega)).mono fun _ _ q => q.elim
    (repeat' (first | (simp (maxSteps := 1000000) (disch := first | omega | (simp only [AM.DB, List.length_set, List.length_map]; first | done | omega)) only [AM.RB, Nat.reduceAdd, Nat.reduceMul, Nat.reduceEqDiff, reduceCtorEq, b41_PC4, g15, g25, decide_eq_true hlen]) | refine AM.build_w ?_))
    refine parts_w pa1 pb1 (by omega) ha1 ?_
    (repeat' (first | (simp (maxSteps := 1000000) (disch := first | omega | (simp only [AM.DB, List.length_set, List.length_map]; first | done | omega)) only [AM.RB, Nat.reduceAdd, Nat.reduceMul, Nat.reduceEqDiff, reduceCtorEq, b41_PC4, g15, g25]) | refine AM.build_w ?_))
    refine parts_w pa2 pb2 (by omega) ha2 ?_
    obtain ⟨r, hr⟩ : ∃ r, (partV (diffs a.1 b.1 a.1.length)).1 = r := ⟨_, rfl⟩
    obtain ⟨c, hc⟩ : ∃ r, (partV (diffs a.2 b.2 a.2.length)).1 = r := ⟨_, rfl⟩
    obtain ⟨o1, ho1⟩ : ∃ r, (partV (diffs a.1 b.1 a.1.length)).2 = r := ⟨_, rfl⟩
    obtain ⟨o2, ho2⟩ : ∃ r, (partV (diffs a.2 b.2 a.2.length)).2 = r := ⟨_, rfl⟩
    obtain ⟨x, hx⟩ : ∃ x, stepOf a b r c = x := ⟨_, rfl⟩
    have hbt : betw L a b = if (o1 && (o2 && (!(decide (0 ≤ r) && decide (0 ≤ c)) && may L a x))) = true then (x, 0) else ((0, 0, 0), 250) := by
      unfold betw
      rw [if_pos ⟨qa, qb, by omega⟩, hr, hc, ho1, ho2, hx]
      congr 1
      by_cases q1 : 0 ≤ r <;> by_cases q2 : 0 ≤ c <;> simp [q1, q2]
    have hrl : 0 ≤ r → ∃ i : Nat, r = i ∧ i < a.1.length := fun q => by
      obtain ⟨i, e, hi⟩ := partV_lt (a := a.1) (b := b.1) (n := a.1.length) (by rw [hr]; exact q)
      exact ⟨i, by rw [← hr]; exact e, hi⟩
    have hcl : 0 ≤ c → ∃ i : Nat, c = i ∧ i < a.2.length := fun q => by
      obtain ⟨i, e, hi⟩ := partV_lt (a := a.2) (b := b.2) (n := a.2.length) (by rw [hc]; exact q)
      exact ⟨i, by rw [← hc]; exact e, hi⟩
    rw [hr, hc, ho1, ho2]
    (repeat' (first | (simp (maxSteps := 1000000) (disch := first | omega | (simp only [AM.DB, List.length_set, List.length_map]; first | done | omega)) only [AM.RB, Nat.reduceAdd, Nat.reduceMul, Nat.reduceEqDiff, reduceCtorEq, b41_PC4]) | refine AM.build_w ?_))
    generalize hE_ : AHeap.put (AHeap.alloc h5 _) _ _ = h6; obtain ⟨g6, fr6, n6, l6⟩ := AM.box_get hE_ (by omega); clear hE_
    have g36 := g35.fr0 fr6
    have rb1' := pb1.fr0 fr6
    have rb2' := pb2.fr0 fr6
    have ra2' := pa2.fr0 fr6
    have gg15 := g15.fr0 fr6
    have gg25 := g25.fr0 fr6
    have cs5 : (0 ≤ r ∧ c < 0) ∨ (0 ≤ r ∧ 0 ≤ c) ∨ (r < 0 ∧ 0 ≤ c ∧ b.2.getD c.toNat 0 = -1) ∨ (r < 0 ∧ 0 ≤ c ∧ ¬ b.2.getD c.toNat 0 = -1) ∨ (r < 0 ∧ c < 0) := by
      by_cases q1 : 0 ≤ r
      · by_cases q2 : c < 0
        · exact .inl ⟨q1, q2⟩
        · exact .inr (.inl ⟨q1, by omega⟩)
      · by_cases q2 : c < 0
        · exact .inr (.inr (.inr (.inr ⟨by omega, q2⟩)))
        · by_cases q3 : b.2.getD c.toNat 0 = -1
          · exact .inr (.inr (.inl ⟨by omega, by omega, q3⟩))
          · exact .inr (.inr (.inr (.inl ⟨by omega, by omega, q3⟩)))
    rcases cs5 with ⟨r0, c0⟩ | ⟨r0, c0⟩ | ⟨r0, c0, b0⟩ | ⟨r0, c0, b0⟩ | ⟨r0, c0⟩
    case inl =>
      obtain ⟨ri, rfl, hri⟩ := hrl r0
      have hxe : x = (3, (ri : Int), b.1.getD ri 0) := by rw [← hx]; unfold stepOf; rw [if_pos ⟨r0, c0⟩, Int.toNat_natCast]
      (repeat' (first | (simp (maxSteps := 1000000) (disch := first | omega | (simp only [AM.DB, List.length_set, List.length_map]; first | done | omega)) only [AM.RB, Nat.reduceAdd, Nat.reduceMul, Nat.reduceEqDiff, reduceCtorEq, b41_PC4, g6, decide_eq_true r0, decide_eq_true c0, gg25, rb1'.ia el_22, Rd.ldi rb1' lk_3, Int.toNat_natCast]) | refine AM.build_w ?_))
      generalize hE_ : AHeap.put h6 _ _ = h7; obtain ⟨g7, fr7, n7, l7⟩ := AM.put_get hE_ (by omega); clear hE_
      have gx : h7.get h5.next = some (.cells [.int .i64 x.1, .int .i64 x.2.1, .int .i64 x.2.2] 65 false) := by rw [hxe]; exact g7
      have fr57 : Fr none' h5 h7 := Fr.fresh fr6 fr7 (fun id e => by have e : id = h5.next := e; omega)
      have hc1 : decide (0 ≤ c) = false := decide_eq_false (by omega)
      have hr1 : decide (0 ≤ (ri : Int)) = true := decide_eq_true (by omega)
      have nx7 := fr57.next
      have lw7 := fr57.low
      have fr07 := fr05.trans fr57
      have m7 := m.fresh fr07
      have g17 := g15.fr0 fr57
      have g37 := g35.fr0 fr57
      have hplt := m.lt
      have lt5 := AM.get_some_lt gx
      have errE : ∀ h8 h9, Mk h8 p L (fun id => B id ∨ (h.next ≤ id ∧ id < h7.next)) → Fr (fun id => id = p) h h8 → Fr (fun id => id = h.next + 1 + 1) h8 h9 → Mk h9 p L B ∧ Fr (fun id => id = p) h h9 := fun h8 h9 m8 q1 q2 =>
        ⟨(m8.frB q2 (fun id e => .inr (by have e : id = h.next + 1 + 1 := e; omega))).sub fun id q => .inl q, q1.then q2 (fun id q1 e => by have e : id = h.next + 1 + 1 := e; omega)⟩
      have toP : Fr (fun id => id = p) h h7 := fr07.mono fun _ _ q => q.elim
      rw [hr1, hc1] at hbt
      cases o1
      · have e : betw L a b = ((0, 0, 0), 250) := by rw [hbt, if_neg (by simp)]
        rw [e] at hq
        (repeat' (first | (simp (maxSteps := 1000000) (disch := first | omega | (simp only [AM.DB, List.length_set, List.length_map]; first | done | omega)) only [AM.RB, Nat.reduceAdd, Nat.reduceMul, Nat.reduceEqDiff, reduceCtorEq, b41_PC4, hr1, hc1, g37]) | refine AM.build_w ?_))
        generalize hE_ : AHeap.put h7 _ _ = h9; obtain ⟨g9, fr9, n9, l9⟩ := AM.put_get hE_ (by omega); clear hE_
        (repeat' (first | (simp (maxSteps := 1000000) (disch := first | omega | (simp only [AM.DB, List.length_set, List.length_map]; first | done | omega)) only [AM.RB, Nat.reduceAdd, Nat.reduceMul, Nat.reduceEqDiff, reduceCtorEq, b41_PC4, g9]) | refine AM.build_w ?_))
        exact hq _ (errE _ _ m7 toP fr9).1 (errE _ _ m7 toP fr9).2
      · cases o2
        · have e : betw L a b = ((0, 0, 0), 250) := by rw [hbt, if_neg (by simp)]
          rw [e] at hq
          (repeat' (first | (simp (maxSteps := 1000000) (disch := first | omega | (simp only [AM.DB, List.length_set, List.length_map]; first | done | omega)) only [AM.RB, Nat.reduceAdd, Nat.reduceMul, Nat.reduceEqDiff, reduceCtorEq, b41_PC4, hr1, hc1, g37]) | refine AM.build_w ?_))
          generalize hE_ : AHeap.put h7 _ _ = h9; obtain ⟨g9, fr9, n9, l9⟩ := AM.put_get hE_ (by omega); clear hE_
          (repeat' (first | (simp (maxSteps := 1000000) (disch := first | omega | (simp only [AM.DB, List.length_set, List.length_map]; first | done | omega)) only [AM.RB, Nat.reduceAdd, Nat.reduceMul, Nat.reduceEqDiff, reduceCtorEq, b41_PC4, g9]) | refine AM.build_w ?_))
          exact hq _ (errE _ _ m7 toP fr9).1 (errE _ _ m7 toP fr9).2
        · (repeat' (first | (simp (maxSteps := 1000000) (disch := first | omega | (simp only [AM.DB, List.length_set, List.length_map]; first | done | omega)) only [AM.RB, Nat.reduceAdd, Nat.reduceMul, Nat.reduceEqDiff, reduceCtorEq, b41_PC4, hr1, hc1, g17, gx]) | refine AM.build_w ?_))
          refine pmay_w m7 f (hw.fr0 fr07) (by omega) (by omega) ⟨_, _, rfl, ra1.fr0 fr07, ra2.fr0 fr07⟩ ca.ln x fun h8 m8 fr8 => ?_
          have nx8 := fr8.next
          have lw8 := fr8.low
          have gx8 := fr8.get gx (show ¬ h5.next = p by omega)
          have g38 := fr8.get g37 (show ¬ h.next + 1 + 1 = p by omega)
          cases hm : may L a x
          · have e : betw L a b = ((0, 0, 0), 250) := by rw [hbt, hm, if_neg (by simp)]
            rw [e] at hq
            (repeat' (first | (simp (maxSteps := 1000000) (disch := first | omega | (simp only [AM.DB, List.length_set, List.length_map]; first | done | omega)) only [AM.RB, Nat.reduceAdd, Nat.reduceMul, Nat.reduceEqDiff, reduceCtorEq, b41_PC4, g38]) | refine AM.build_w ?_))
            generalize hE_ : AHeap.put h8 _ _ = h9; obtain ⟨g9, fr9, n9, l9⟩ := AM.put_get hE_ (by omega); clear hE_
            (repeat' (first | (simp (maxSteps := 1000000) (disch := first | omega | (simp only [AM.DB, List.length_set, List.length_map]; first | done | omega)) only [AM.RB, Nat.reduceAdd, Nat.reduceMul, Nat.reduceEqDiff, reduceCtorEq, b41_PC4, g9]) | refine AM.build_w ?_))
            exact hq _ (errE _ _ m8 (toP.trans fr8) fr9).1 (errE _ _ m8 (toP.trans fr8) fr9).2
          · have e : betw L a b = (x, 0) := by rw [hbt, hm, if_pos (by simp)]
            rw [e] at hq
            (repeat' (first | (simp (maxSteps := 1000000) (disch := first | omega | (simp only [AM.DB, List.length_set, List.length_map]; first | done | omega)) only [AM.RB, Nat.reduceAdd, Nat.reduceMul, Nat.reduceEqDiff, reduceCtorEq, b41_PC4, gx8, g38]) | refine AM.build_w ?_))
            generalize hE_ : AHeap.put h8 _ _ = h9; obtain ⟨g9, fr9, n9, l9⟩ := AM.put_get hE_ (by omega); clear hE_
            (repeat' (first | (simp (maxSteps := 1000000) (disch := first | omega | (simp only [AM.DB, List.length_set, List.length_map]; first | done | omega)) only [AM.RB, Nat.reduceAdd, Nat.reduceMul, Nat.reduceEqDiff, reduceCtorEq, b41_PC4, g9]) | refine AM.build_w ?_))
            exact hq _ (errE _ _ m8 (toP.trans fr8) fr9).1 (errE _ _ m8 (toP.trans fr8) fr9).2
    case inr.inl =>
      obtain ⟨ri, rfl, hri⟩ := hrl r0
      have hxe : x = (0, 0, 0) := by rw [← hx]; unfold stepOf; rw [if_neg (by omega), if_neg (by omega), if_neg (by omega)]
      have dlt : decide ((ri : Int) < 0) = false := decide_eq_false (by omega)
      have dcl : decide (c < 0) = false := decide_eq_false (by omega)
      (repeat' (first | (simp (maxSteps := 1000000) (disch := first | omega | (simp only [AM.DB, List.length_set, List.length_map]; first | done | omega)) only [AM.RB, Nat.reduceAdd, Nat.reduceMul, Nat.reduceEqDiff, reduceCtorEq, b41_PC4, decide_eq_true r0, dcl, dlt]) | refine AM.build_w ?_))
      obtain ⟨h7, e67⟩ : ∃ h7, h6 = h7 := ⟨_, rfl⟩
      rw [e67] at g6 fr6 n6 l6 ⊢
      have gx : h7.get h5.next = some (.cells [.int .i64 x.1, .int .i64 x.2.1, .int .i64 x.2.2] 65 false) := by rw [hxe]; exact g6
      have fr57 : Fr none' h5 h7 := fr6
      have hc1 : decide (0 ≤ c) = true := decide_eq_true (by omega)
      have hr1 : decide (0 ≤ (ri : Int)) = true := decide_eq_true (by omega)
      have nx7 := fr57.next
      have lw7 := fr57.low
      have fr07 := fr05.trans fr57
      have m7 := m.fresh fr07
      have g17 := g15.fr0 fr57
      have g37 := g35.fr0 fr57
      have hplt := m.lt
      have lt5 := AM.get_some_lt gx
      have errE : ∀ h8 h9, Mk h8 p L (fun id => B id ∨ (h.next ≤ id ∧ id < h7.next)) → Fr (fun id => id = p) h h8 → Fr (fun id => id = h.next + 1 + 1) h8 h9 → Mk h9 p L B ∧ Fr (fun id => id = p) h h9 := fun h8 h9 m8 q1 q2 =>
        ⟨(m8.frB q2 (fun id e => .inr (by have e : id = h.next + 1 + 1 := e; omega))).sub fun id q => .inl q, q1.then q2 (fun id q1 e => by have e : id = h.next + 1 + 1 := e; omega)⟩
      have toP : Fr (fun id => id = p) h h7 := fr07.mono fun _ _ q => q.elim
      rw [hr1, hc1] at hbt
      cases o1
      · have e : betw L a b = ((0, 0, 0), 250) := by rw [hbt, if_neg (by simp)]
        rw [e] at hq
        (repeat' (first | (simp (maxSteps := 1000000) (disch := first | omega | (simp only [AM.DB, List.length_set, List.length_map]; first | done | omega)) only [AM.RB, Nat.reduceAdd, Nat.reduceMul, Nat.reduceEqDiff, reduceCtorEq, b41_PC4, hr1, hc1, g37]) | refine AM.build_w ?_))
        generalize hE_ : AHeap.put h7 _ _ = h9; obtain ⟨g9, fr9, n9, l9⟩ := AM.put_get hE_ (by omega); clear hE_
        (repeat' (first | (simp (maxSteps := 1000000) (disch := first | omega | (simp only [AM.DB, List.length_set, List.length_map]; first | done | omega)) only [AM.RB, Nat.reduceAdd, Nat.reduceMul, Nat.reduceEqDiff, reduceCtorEq, b41_PC4, g9]) | refine AM.build_w ?_))
        exact hq _ (errE _ _ m7 toP fr9).1 (errE _ _ m7 toP fr9).2
      · cases o2
        · have e : betw L a b = ((0, 0, 0), 250) := by rw [hbt, if_neg (by simp)]
          rw [e] at hq
          (repeat' (first | (simp (maxSteps := 1000000) (disch := first | omega | (simp only [AM.DB, List.length_set, List.length_map]; first | done | omega)) only [AM.RB, Nat.reduceAdd, Nat.reduceMul, Nat.reduceEqDiff, reduceCtorEq, b41_PC4, hr1, hc1, g37]) | refine AM.build_w ?_))
          generalize hE_ : AHeap.put h7 _ _ = h9; obtain ⟨g9, fr9, n9, l9⟩ := AM.put_get hE_ (by omega); clear hE_
          (repeat' (first | (simp (maxSteps := 1000000) (disch := first | omega | (simp only [AM.DB, List.length_set, List.length_map]; first | done | omega)) only [AM.RB, Nat.reduceAdd, Nat.reduceMul, Nat.reduceEqDiff, reduceCtorEq, b41_PC4, g9]) | refine AM.build_w ?_))
          exact hq _ (errE _ _ m7 toP fr9).1 (errE _ _ m7 toP fr9).2
        · have e : betw L a b = ((0, 0, 0), 250) := by rw [hbt, if_neg (by simp)]
          rw [e] at hq
          (repeat' (first | (simp (maxSteps := 1000000) (disch := first | omega | (simp only [AM.DB, List.length_set, List.length_map]; first | done | omega)) only [AM.RB, Nat.reduceAdd, Nat.reduceMul, Nat.reduceEqDiff, reduceCtorEq, b41_PC4, hr1, hc1, g37]) | refine AM.build_w ?_))
          generalize hE_ : AHeap.put h7 _ _ = h9; obtain ⟨g9, fr9, n9, l9⟩ := AM.put_get hE_ (by omega); clear hE_
          (repeat' (first | (simp (maxSteps := 1000000) (disch := first | omega | (simp only [AM.DB, List.length_set, List.length_map]; first | done | omega)) only [AM.RB, Nat.reduceAdd, Nat.reduceMul, Nat.reduceEqDiff, reduceCtorEq, b41_PC4, g9]) | refine AM.build_w ?_))
          exact hq _ (errE _ _ m7 toP fr9).1 (errE _ _ m7 toP fr9).2
    case inr.inr.inl =>
      have drl : decide (r < 0) = true := decide_eq_true (by omega)
      have drg : decide (0 ≤ r) = false := decide_eq_false (by omega)
      obtain ⟨ci, rfl, hci⟩ := hcl c0
      rw [Int.toNat_natCast] at b0
      have hxe : x = (2, a.2.getD ci 0, (ci : Int)) := by rw [← hx]; unfold stepOf; rw [if_neg (by omega), if_pos ⟨by omega, by omega, by rw [Int.toNat_natCast]; exact b0⟩, Int.toNat_natCast]
      (repeat' (first | (simp (maxSteps := 1000000) (disch := first | omega | (simp only [AM.DB, List.length_set, List.length_map]; first | done | omega)) only [AM.RB, Nat.reduceAdd, Nat.reduceMul, Nat.reduceEqDiff, reduceCtorEq, b41_PC4, g6, drg, drl, decide_eq_true c0, gg25, gg15, rb2'.ia el_22, Rd.ldi rb2' lk_3, ra2'.ia el_22, Rd.ldi ra2' lk_3, Int.toNat_natCast, decide_eq_true b0]) | refine AM.build_w ?_))
      generalize hE_ : AHeap.put h6 _ _ = h7; obtain ⟨g7, fr7, n7, l7⟩ := AM.put_get hE_ (by omega); clear hE_
      have gx : h7.get h5.next = some (.cells [.int .i64 x.1, .int .i64 x.2.1, .int .i64 x.2.2] 65 false) := by rw [hxe]; exact g7
      have fr57 : Fr none' h5 h7 := Fr.fresh fr6 fr7 (fun id e => by have e : id = h5.next := e; omega)
      have hc1 : decide (0 ≤ (ci : Int)) = true := decide_eq_true (by omega)
      have hr1 : decide (0 ≤ r) = false := decide_eq_false (by omega)
      have nx7 := fr57.next
      have lw7 := fr57.low
      have fr07 := fr05.trans fr57
      have m7 := m.fresh fr07
      have g17 := g15.fr0 fr57
      have g37 := g35.fr0 fr57
      have hplt := m.lt
      have lt5 := AM.get_some_lt gx
      have errE : ∀ h8 h9, Mk h8 p L (fun id => B id ∨ (h.next ≤ id ∧ id < h7.next)) → Fr (fun id => id = p) h h8 → Fr (fun id => id = h.next + 1 + 1) h8 h9 → Mk h9 p L B ∧ Fr (fun id => id = p) h h9 := fun h8 h9 m8 q1 q2 =>
        ⟨(m8.frB q2 (fun id e => .inr (by have e : id = h.next + 1 + 1 := e; omega))).sub fun id q => .inl q, q1.then q2 (fun id q1 e => by have e : id = h.next + 1 + 1 := e; omega)⟩
      have toP : Fr (fun id => id = p) h h7 := fr07.mono fun _ _ q => q.elim
      rw [hr1, hc1] at hbt
      cases o1
      · have e : betw L a b = ((0, 0, 0), 250) := by rw [hbt, if_neg (by simp)]
        rw [e] at hq
        (repeat' (first | (simp (maxSteps := 1000000) (disch := first | omega | (simp only [AM.DB, List.length_set, List.length_map]; first | done | omega)) only [AM.RB, Nat.reduceAdd, Nat.reduceMul, Nat.reduceEqDiff, reduceCtorEq, b41_PC4, hr1, hc1, g37]) | refine AM.build_w ?_))
        generalize hE_ : AHeap.put h7 _ _ = h9; obtain ⟨g9, fr9, n9, l9⟩ := AM.put_get hE_ (by omega); clear hE_
        (repeat' (first | (simp (maxSteps := 1000000) (disch := first | omega | (simp only [AM.DB, List.length_set, List.length_map]; first | done | omega)) only [AM.RB, Nat.reduceAdd, Nat.reduceMul, Nat.reduceEqDiff, reduceCtorEq, b41_PC4, g9]) | refine AM.build_w ?_))
        exact hq _ (errE _ _ m7 toP fr9).1 (errE _ _ m7 toP fr9).2
      · cases o2
        · have e : betw L a b = ((0, 0, 0), 250) := by rw [hbt, if_neg (by simp)]
          rw [e] at hq
          (repeat' (first | (simp (maxSteps := 1000000) (disch := first | omega | (simp only [AM.DB, List.length_set, List.length_map]; first | done | omega)) only [AM.RB, Nat.reduceAdd, Nat.reduceMul, Nat.reduceEqDiff, reduceCtorEq, b41_PC4, hr1, hc1, g37]) | refine AM.build_w ?_))
          generalize hE_ : AHeap.put h7 _ _ = h9; obtain ⟨g9, fr9, n9, l9⟩ := AM.put_get hE_ (by omega); clear hE_
          (repeat' (first | (simp (maxSteps := 1000000) (disch := first | omega | (simp only [AM.DB, List.length_set, List.length_map]; first | done | omega)) only [AM.RB, Nat.reduceAdd, Nat.reduceMul, Nat.reduceEqDiff, reduceCtorEq, b41_PC4, g9]) | refine AM.build_w ?_))
          exact hq _ (errE _ _ m7 toP fr9).1 (errE _ _ m7 toP fr9).2
        · (repeat' (first | (simp (maxSteps := 1000000) (disch := first | omega | (simp only [AM.DB, List.length_set, List.length_map]; first | done | omega)) only [AM.RB, Nat.reduceAdd, Nat.reduceMul, Nat.reduceEqDiff, reduceCtorEq, b41_PC4, hr1, hc1, g17, gx]) | refine AM.build_w ?_))
          refine pmay_w m7 f (hw.fr0 fr07) (by omega) (by omega) ⟨_, _, rfl, ra1.fr0 fr07, ra2.fr0 fr07⟩ ca.ln x fun h8 m8 fr8 => ?_
          have nx8 := fr8.next
          have lw8 := fr8.low
          have gx8 := fr8.get gx (show ¬ h5.next = p by omega)
          have g38 := fr8.get g37 (show ¬ h.next + 1 + 1 = p by omega)
          cases hm : may L a x
          · have e : betw L a b = ((0, 0, 0), 250) := by rw [hbt, hm, if_neg (by simp)]
            rw [e] at hq
            (repeat' (first | (simp (maxSteps := 1000000) (disch := first | omega | (simp only [AM.DB, List.length_set, List.length_map]; first | done | omega)) only [AM.RB, Nat.reduceAdd, Nat.reduceMul, Nat.reduceEqDiff, reduceCtorEq, b41_PC4, g38]) | refine AM.build_w ?_))
            generalize hE_ : AHeap.put h8 _ _ = h9; obtain ⟨g9, fr9, n9, l9⟩ := AM.put_get hE_ (by omega); clear hE_
            (repeat' (first | (simp (maxSteps := 1000000) (disch := first | omega | (simp only [AM.DB, List.length_set, List.length_map]; first | done | omega)) only [AM.RB, Nat.reduceAdd, Nat.reduceMul, Nat.reduceEqDiff, reduceCtorEq, b41_PC4, g9]) | refine AM.build_w ?_))
            exact hq _ (errE _ _ m8 (toP.trans fr8) fr9).1 (errE _ _ m8 (toP.trans fr8) fr9).2
          · have e : betw L a b = (x, 0) := by rw [hbt, hm, if_pos (by simp)]
            rw [e] at hq
            (repeat' (first | (simp (maxSteps := 1000000) (disch := first | omega | (simp only [AM.DB, List.length_set, List.length_map]; first | done | omega)) only [AM.RB, Nat.reduceAdd, Nat.reduceMul, Nat.reduceEqDiff, reduceCtorEq, b41_PC4, gx8, g38]) | refine AM.build_w ?_))
            generalize hE_ : AHeap.put h8 _ _ = h9; obtain ⟨g9, fr9, n9, l9⟩ := AM.put_get hE_ (by omega); clear hE_
            (repeat' (first | (simp (maxSteps := 1000000) (disch := first | omega | (simp only [AM.DB, List.length_set, List.length_map]; first | done | omega)) only [AM.RB, Nat.reduceAdd, Nat.reduceMul, Nat.reduceEqDiff, reduceCtorEq, b41_PC4, g9]) | refine AM.build_w ?_))
            exact hq _ (errE _ _ m8 (toP.trans fr8) fr9).1 (errE _ _ m8 (toP.trans fr8) fr9).2
    case inr.inr.inr.inl =>
      have drl : decide (r < 0) = true := decide_eq_true (by omega)
      have drg : decide (0 ≤ r) = false := decide_eq_false (by omega)
      obtain ⟨ci, rfl, hci⟩ := hcl c0
      rw [Int.toNat_natCast] at b0
      have hxe : x = (1, b.2.getD ci 0, (ci : Int)) := by rw [← hx]; unfold stepOf; rw [if_neg (by omega), if_neg (fun q => b0 (by have := q.2.2; rwa [Int.toNat_natCast] at this)), if_pos ⟨by omega, by omega⟩, Int.toNat_natCast]
      (repeat' (first | (simp (maxSteps := 1000000) (disch := first | omega | (simp only [AM.DB, List.length_set, List.length_map]; first | done | omega)) only [AM.RB, Nat.reduceAdd, Nat.reduceMul, Nat.reduceEqDiff, reduceCtorEq, b41_PC4, g6, drg, drl, decide_eq_true c0, gg25, gg15, rb2'.ia el_22, Rd.ldi rb2' lk_3, Int.toNat_natCast, decide_eq_false b0]) | refine AM.build_w ?_))
      generalize hE_ : AHeap.put h6 _ _ = h7; obtain ⟨g7, fr7, n7, l7⟩ := AM.put_get hE_ (by omega); clear hE_
      have gx : h7.get h5.next = some (.cells [.int .i64 x.1, .int .i64 x.2.1, .int .i64 x.2.2] 65 false) := by rw [hxe]; exact g7
      have fr57 : Fr none' h5 h7 := Fr.fresh fr6 fr7 (fun id e => by have e : id = h5.next := e; omega)
      have hc1 : decide (0 ≤ (ci : Int)) = true := decide_eq_true (by omega)
      have hr1 : decide (0 ≤ r) = false := decide_eq_false (by omega)
      have nx7 := fr57.next
      have lw7 := fr57.low
      have fr07 := fr05.trans fr57
      have m7 := m.fresh fr07
      have g17 := g15.fr0 fr57
      have g37 := g35.fr0 fr57
      have hplt := m.lt
      have lt5 := AM.get_some_lt gx
      have errE : ∀ h8 h9, Mk h8 p L (fun id => B id ∨ (h.next ≤ id ∧ id < h7.next)) → Fr (fun id => id = p) h h8 → Fr (fun id => id = h.next + 1 + 1) h8 h9 → Mk h9 p L B ∧ Fr (fun id => id = p) h h9 := fun h8 h9 m8 q1 q2 =>
        ⟨(m8.frB q2 (fun id e => .inr (by have e : id = h.next + 1 + 1 := e; omega))).sub fun id q => .inl q, q1.then q2 (fun id q1 e => by have e : id = h.next + 1 + 1 := e; omega)⟩
      have toP : Fr (fun id => id = p) h h7 := fr07.mono fun _ _ q => q.elim
      rw [hr1, hc1] at hbt
      cases o1
      · have e : betw L a b = ((0, 0, 0), 250) := by rw [hbt, if_neg (by simp)]
        rw [e] at hq
        (repeat' (first | (simp (maxSteps := 1000000) (disch := first | omega | (simp only [AM.DB, List.length_set, List.length_map]; first | done | omega)) only [AM.RB, Nat.reduceAdd, Nat.reduceMul, Nat.reduceEqDiff, reduceCtorEq, b41_PC4, hr1, hc1, g37]) | refine AM.build_w ?_))
        generalize hE_ : AHeap.put h7 _ _ = h9; obtain ⟨g9, fr9, n9, l9⟩ := AM.put_get hE_ (by omega); clear hE_
        (repeat' (first | (simp (maxSteps := 1000000) (disch := first | omega | (simp only [AM.DB, List.length_set, List.length_map]; first | done | omega)) only [AM.RB, Nat.reduceAdd, Nat.reduceMul, Nat.reduceEqDiff, reduceCtorEq, b41_PC4, g9]) | refine AM.build_w ?_))
        exact hq _ (errE _ _ m7 toP fr9).1 (errE _ _ m7 toP fr9).2
      · cases o2
        · have e : betw L a b = ((0, 0, 0), 250) := by rw [hbt, if_neg (by simp)]
          rw [e] at hq
          (repeat' (first | (simp (maxSteps := 1000000) (disch := first | omega | (simp only [AM.DB, List.length_set, List.length_map]; first | done | omega)) only [AM.RB, Nat.reduceAdd, Nat.reduceMul, Nat.reduceEqDiff, reduceCtorEq, b41_PC4, hr1, hc1, g37]) | refine AM.build_w ?_))
          generalize hE_ : AHeap.put h7 _ _ = h9; obtain ⟨g9, fr9, n9, l9⟩ := AM.put_get hE_ (by omega); clear hE_
          (repeat' (first | (simp (maxSteps := 1000000) (disch := first | omega | (simp only [AM.DB, List.length_set, List.length_map]; first | done | omega)) only [AM.RB, Nat.reduceAdd, Nat.reduceMul, Nat.reduceEqDiff, reduceCtorEq, b41_PC4, g9]) | refine AM.build_w ?_))
          exact hq _ (errE _ _ m7 toP fr9).1 (errE _ _ m7 toP fr9).2
        · (repeat' (first | (simp (maxSteps := 1000000) (disch := first | omega | (simp only [AM.DB, List.length_set, List.length_map]; first | done | omega)) only [AM.RB, Nat.reduceAdd, Nat.reduceMul, Nat.reduceEqDiff, reduceCtorEq, b41_PC4, hr1, hc1, g17, gx]) | refine AM.build_w ?_))
          refine pmay_w m7 f (hw.fr0 fr07) (by omega) (by omega) ⟨_, _, rfl, ra1.fr0 fr07, ra2.fr0 fr07⟩ ca.ln x fun h8 m8 fr8 => ?_
          have nx8 := fr8.next
          have lw8 := fr8.low
          have gx8 := fr8.get gx (show ¬ h5.next = p by omega)
          have g38 := fr8.get g37 (show ¬ h.next + 1 + 1 = p by omega)
          cases hm : may L a x
          · have e : betw L a b = ((0, 0, 0), 250) := by rw [hbt, hm, if_neg (by simp)]
            rw [e] at hq
            (repeat' (first | (simp (maxSteps := 1000000) (disch := first | omega | (simp only [AM.DB, List.length_set, List.length_map]; first | done | omega)) only [AM.RB, Nat.reduceAdd, Nat.reduceMul, Nat.reduceEqDiff, reduceCtorEq, b41_PC4, g38]) | refine AM.build_w ?_))
            generalize hE_ : AHeap.put h8 _ _ = h9; obtain ⟨g9, fr9, n9, l9⟩ := AM.put_get hE_ (by omega); clear hE_
            (repeat' (first | (simp (maxSteps := 1000000) (disch := first | omega | (simp only [AM.DB, List.length_set, List.length_map]; first | done | omega)) only [AM.RB, Nat.reduceAdd, Nat.reduceMul, Nat.reduceEqDiff, reduceCtorEq, b41_PC4, g9]) | refine AM.build_w ?_))
            exact hq _ (errE _ _ m8 (toP.trans fr8) fr9).1 (errE _ _ m8 (toP.trans fr8) fr9).2
          · have e : betw L a b = (x, 0) := by rw [hbt, hm, if_pos (by simp)]
            rw [e] at hq
            (repeat' (first | (simp (maxSteps := 1000000) (disch := first | omega | (simp only [AM.DB, List.length_set, List.length_map]; first | done | omega)) only [AM.RB, Nat.reduceAdd, Nat.reduceMul, Nat.reduceEqDiff, reduceCtorEq, b41_PC4, gx8, g38]) | refine AM.build_w ?_))
            generalize hE_ : AHeap.put h8 _ _ = h9; obtain ⟨g9, fr9, n9, l9⟩ := AM.put_get hE_ (by omega); clear hE_
            (repeat' (first | (simp (maxSteps := 1000000) (disch := first | omega | (simp only [AM.DB, List.length_set, List.length_map]; first | done | omega)) only [AM.RB, Nat.reduceAdd, Nat.reduceMul, Nat.reduceEqDiff, reduceCtorEq, b41_PC4, g9]) | refine AM.build_w ?_))
            exact hq _ (errE _ _ m8 (toP.trans fr8) fr9).1 (errE _ _ m8 (toP.trans fr8) fr9).2
    case inr.inr.inr.inr =>
      have drl : decide (r < 0) = true := decide_eq_true (by omega)
      have drg : decide (0 ≤ r) = false := decide_eq_false (by omega)
      have dcl : decide (0 ≤ c) = false := decide_eq_false (by omega)
      have hxe : x = (0, 0, 0) := by rw [← hx]; unfold stepOf; rw [if_neg (by omega), if_neg (by omega), if_neg (by omega)]
      (repeat' (first | (simp (maxSteps := 1000000) (disch := first | omega | (simp only [AM.DB, List.length_set, List.length_map]; first | done | omega)) only [AM.RB, Nat.reduceAdd, Nat.reduceMul, Nat.reduceEqDiff, reduceCtorEq, b41_PC4, drg, drl, dcl]) | refine AM.build_w ?_))
      obtain ⟨h7, e67⟩ : ∃ h7, h6 = h7 := ⟨_, rfl⟩
      rw [e67] at g6 fr6 n6 l6 ⊢
      have gx : h7.get h5.next = some (.cells [.int .i64 x.1, .int .i64 x.2.1, .int .i64 x.2.2] 65 false) := by rw [hxe]; exact g6
      have fr57 : Fr none' h5 h7 := fr6
      have hc1 : decide (0 ≤ c) = false := decide_eq_false (by omega)
      have hr1 : decide (0 ≤ r) = false := decide_eq_false (by omega)
      have nx7 := fr57.next
      have lw7 := fr57.low
      have fr07 := fr05.trans fr57
      have m7 := m.fresh fr07
      have g17 := g15.fr0 fr57
      have g37 := g35.fr0 fr57
      have hplt := m.lt
      have lt5 := AM.get_some_lt gx
      have errE : ∀ h8 h9, Mk h8 p L (fun id => B id ∨ (h.next ≤ id ∧ id < h7.next)) → Fr (fun id => id = p) h h8 → Fr (fun id => id = h.next + 1 + 1) h8 h9 → Mk h9 p L B ∧ Fr (fun id => id = p) h h9 := fun h8 h9 m8 q1 q2 =>
        ⟨(m8.frB q2 (fun id e => .inr (by have e : id = h.next + 1 + 1 := e; omega))).sub fun id q => .inl q, q1.then q2 (fun id q1 e => by have e : id = h.next + 1 + 1 := e; omega)⟩
      have toP : Fr (fun id => id = p) h h7 := fr07.mono fun _ _ q => q.elim
      rw [hr1, hc1] at hbt
      cases o1
      · have e : betw L a b = ((0, 0, 0), 250) := by rw [hbt, if_neg (by simp)]
        rw [e] at hq
        (repeat' (first | (simp (maxSteps := 1000000) (disch := first | omega | (simp only [AM.DB, List.length_set, List.length_map]; first | done | omega)) only [AM.RB, Nat.reduceAdd, Nat.reduceMul, Nat.reduceEqDiff, reduceCtorEq, b41_PC4, hr1, hc1, g37]) | refine AM.build_w ?_))
        generalize hE_ : AHeap.put h7 _ _ = h9; obtain ⟨g9, fr9, n9, l9⟩ := AM.put_get hE_ (by omega); clear hE_
        (repeat' (first | (simp (maxSteps := 1000000) (disch := first | omega | (simp only [AM.DB, List.length_set, List.length_map]; first | done | omega)) only [AM.RB, Nat.reduceAdd, Nat.reduceMul, Nat.reduceEqDiff, reduceCtorEq, b41_PC4, g9]) | refine AM.build_w ?_))
        exact hq _ (errE _ _ m7 toP fr9).1 (errE _ _ m7 toP fr9).2
      · cases o2
        · have e : betw L a b = ((0, 0, 0), 250) := by rw [hbt, if_neg (by simp)]
          rw [e] at hq
          (repeat' (first | (simp (maxSteps := 1000000) (disch := first | omega | (simp only [AM.DB, List.length_set, List.length_map]; first | done | omega)) only [AM.RB, Nat.reduceAdd, Nat.reduceMul, Nat.reduceEqDiff, reduceCtorEq, b41_PC4, hr1, hc1, g37]) | refine AM.build_w ?_))
          generalize hE_ : AHeap.put h7 _ _ = h9; obtain ⟨g9, fr9, n9, l9⟩ := AM.put_get hE_ (by omega); clear hE_
          (repeat' (first | (simp (maxSteps := 1000000) (disch := first | omega | (simp only [AM.DB, List.length_set, List.length_map]; first | done | omega)) only [AM.RB, Nat.reduceAdd, Nat.reduceMul, Nat.reduceEqDiff, reduceCtorEq, b41_PC4, g9]) | refine AM.build_w ?_))
          exact hq _ (errE _ _ m7 toP fr9).1 (errE _ _ m7 toP fr9).2
        · (repeat' (first | (simp (maxSteps := 1000000) (disch := first | omega | (simp only [AM.DB, List.length_set, List.length_map]; first | done | omega)) only [AM.RB, Nat.reduceAdd, Nat.reduceMul, Nat.reduceEqDiff, reduceCtorEq, b41_PC4, hr1, hc1, g17, gx]) | refine AM.build_w ?_))
          refine pmay_w m7 f (hw.fr0 fr07) (by omega) (by omega) ⟨_, _, rfl, ra1.fr0 fr07, ra2.fr0 fr07⟩ ca.ln x fun h8 m8 fr8 => ?_
          have nx8 := fr8.next
          have lw8 := fr8.low
          have gx8 := fr8.get gx (show ¬ h5.next = p by omega)
          have g38 := fr8.get g37 (show ¬ h.next + 1 + 1 = p by omega)
          cases hm : may L a x
          · have e : betw L a b = ((0, 0, 0), 250) := by rw [hbt, hm, if_neg (by simp)]
            rw [e] at hq
            (repeat' (first | (simp (maxSteps := 1000000) (disch := first | omega | (simp only [AM.DB, List.length_set, List.length_map]; first | done | omega)) only [AM.RB, Nat.reduceAdd, Nat.reduceMul, Nat.reduceEqDiff, reduceCtorEq, b41_PC4, g38]) | refine AM.build_w ?_))
            generalize hE_ : AHeap.put h8 _ _ = h9; obtain ⟨g9, fr9, n9, l9⟩ := AM.put_get hE_ (by omega); clear hE_
            (repeat' (first | (simp (maxSteps := 1000000) (disch := first | omega | (simp only [AM.DB, List.length_set, List.length_map]; first | done | omega)) only [AM.RB, Nat.reduceAdd, Nat.reduceMul, Nat.reduceEqDiff, reduceCtorEq, b41_PC4, g9]) | refine AM.build_w ?_))
            exact hq _ (errE _ _ m8 (toP.trans fr8) fr9).1 (errE _ _ m8 (toP.trans fr8) fr9).2
          · have e : betw L a b = (x, 0) := by rw [hbt, hm, if_pos (by simp)]
            rw [e] at hq
            (repeat' (first | (simp (maxSteps := 1000000) (disch := first | omega | (simp only [AM.DB, List.length_set, List.length_map]; first | done | omega)) only [AM.RB, Nat.reduceAdd, Nat.reduceMul, Nat.reduceEqDiff, reduceCtorEq, b41_PC4, gx8, g38]) | refine AM.build_w ?_))
            generalize hE_ : AHeap.put h8 _ _ = h9; obtain ⟨g9, fr9, n9, l9⟩ := AM.put_get hE_ (by omega); clear hE_
            (repeat' (first | (simp (maxSteps := 1000000) (disch := first | omega | (simp only [AM.DB, List.length_set, List.length_map]; first | done | omega)) only [AM.RB, Nat.reduceAdd, Nat.reduceMul, Nat.reduceEqDiff, reduceCtorEq, b41_PC4, g9]) | refine AM.build_w ?_))
            exact hq _ (errE _ _ m8 (toP.trans fr8) fr9).1 (errE _ _ m8 (toP.trans fr8) fr9).2

end Go.Proofs.YtbaohngkapmhlaaDoor

namespace Go.Proofs.YtbaohngkapmhlaaDoor
open Go.AM

/-- A state that comes in. -/
theorem arg_st {h : AHeap} {a : Value} (q : AM.ADv Tryd.prog h 59 a) : ∃ s, StR h a s := by
  obtain ⟨q1, q2, _⟩ := q
  obtain ⟨l, rfl⟩ := q2 (by kernel_rfl)
  have e : (Value.agg l.toArray).cells.toList = l := by simp [Value.cells]
  rw [e] at q1
  obtain ⟨h2, hf⟩ := q1.struct_fields (sz := 2) (l := [(0, 22, 1), (1, 22, 1)]) (by kernel_rfl)
  match l, h2 with
  | [x, y], _ =>
    obtain ⟨v, bs, hv, hr⟩ := AM.AD.rd (e := 3) (sz := 1) ul_22 (by kernel_rfl) (fun n : Int => [.int .i64 n]) (fun cs hcs => by obtain ⟨n, e, _⟩ := hcs.int_inv ul_3; exact ⟨n, e⟩) (show AD Tryd.prog h 22 [x] from hf (0, 22, 1) (by simp))
    obtain ⟨w, cs, hw, hr2⟩ := AM.AD.rd (e := 3) (sz := 1) ul_22 (by kernel_rfl) (fun n : Int => [.int .i64 n]) (fun cs hcs => by obtain ⟨n, e, _⟩ := hcs.int_inv ul_3; exact ⟨n, e⟩) (show AD Tryd.prog h 22 [y] from hf (1, 22, 1) (by simp))
    cases hv
    cases hw
    rw [AM.flatMap_one] at hr hr2
    exact ⟨(bs, cs), _, _, rfl, hr, hr2⟩

end Go.Proofs.YtbaohngkapmhlaaDoor

namespace Go.Proofs.YtbaohngkapmhlaaDoor
open Go.AM
set_option maxRecDepth 8000
theorem b38_PC11 : type_of% (And.intro (@AM.bin_gtr) (And.intro (@AM.bin_mul) (And.intro (@AM.bin_neq) (And.intro (@AM.ex_tuple) (And.intro (@AM.op_binOp) (And.intro (@AM.op_call) (And.intro (@AM.op_extract) (And.intro (@AM.op_len) (And.intro (@AM.resL_two) (AM.str_len ul_9)))))))))) := And.intro (@AM.bin_gtr) (And.intro (@AM.bin_mul) (And.intro (@AM.bin_neq) (And.intro (@AM.ex_tuple) (And.intro (@AM.op_binOp) (And.intro (@AM.op_call) (And.intro (@AM.op_extract) (And.intro (@AM.op_len) (And.intro (@AM.resL_two) (AM.str_len ul_9)))))))))


theorem both_w (l : List UInt8) (M : Nat) (hM : M ≤ 1000) {h : AHeap} (hl : h.low ≤ h.next) {Q : VQ}
    (hno : ∀ h', Fr none' h h' → Q (.tuple #[.pointer none, .pointer none]) h')
    (hok : ∀ L p kv q lv h', verd l = .ok L → L.flatten.length ≤ M → Mp h' p kv L.length (L.getD 0 []).length L.flatten tl0 → Rp h' q lv L → Fr none' h h' → h.next ≤ p → (∀ id, idOf kv id → h.next ≤ id) → q ≠ p → (∀ id, idOf lv id → id ≠ p) → Q (.tuple #[pv p, pv q]) h') : W 38 [strV l, .int .i64 M] h Q := by
  have d100 : decide ((10 : Int) = 0) = false := rfl
  have d00 : decide ((0 : Int) = 0) = true := rfl
  refine AM.enter hp (fn := Tryd.f38) (rs := [.tmp 4, .tmp 5]) (nt := 46) (by kernel_rfl) Tryd.func38 rfl rfl rfl (by kernel_rfl) ?_
  by_cases hlen : (2 * M : Int) < l.length
  · (first | (simp (maxSteps := 1000000) (disch := first | omega | (simp only [AM.DB, List.length_set, List.length_map]; first | done | omega)) only [AM.RB, Nat.reduceAdd, Nat.reduceMul, Nat.reduceEqDiff, reduceCtorEq, b38_PC11, AM.wrap_i64, decide_eq_true hlen]) | skip)
    exact hno _ (Fr.refl _ _)
  (first | (simp (maxSteps := 1000000) (disch := first | omega | (simp only [AM.DB, List.length_set, List.length_map]; first | done | omega)) only [AM.RB, Nat.reduceAdd, Nat.reduceMul, Nat.reduceEqDiff, reduceCtorEq, b38_PC11, AM.wrap_i64, decide_eq_false hlen]) | skip)
  refine refV_w l (by omega) hl (fun a' b' hv h1 fr1 => ?_) (fun L hv q lv h1 r1 fr1 hq1 hid1 => ?_)
  · (first | (simp (maxSteps := 1000000) (disch := first | omega | (simp only [AM.DB, List.length_set, List.length_map]; first | done | omega)) only [AM.RB, Nat.reduceAdd, Nat.reduceMul, Nat.reduceEqDiff, reduceCtorEq, b38_PC11, d100]) | skip)
    exact hno _ fr1
  have G := verd_good hv
  have hbd : L.length ≤ 4000000 ∧ (L.getD 0 []).length ≤ 4000000 := by have := G.fit.r32; have := G.fit.c32; omega
  have flen := G.fit.len
  have nx1 := fr1.next
  have lw1 := fr1.low
  (first | (simp (maxSteps := 1000000) (disch := first | omega | (simp only [AM.DB, List.length_set, List.length_map]; first | done | omega)) only [AM.RB, Nat.reduceAdd, Nat.reduceMul, Nat.reduceEqDiff, reduceCtorEq, b38_PC11, d00]) | skip)
  refine refCells_w r1 G.rows hbd ?_
  by_cases hc : (M : Int) < ((L.length * (L.getD 0 []).length : Nat) : Int)
  · (first | (simp (maxSteps := 1000000) (disch := first | omega | (simp only [AM.DB, List.length_set, List.length_map]; first | done | omega)) only [AM.RB, Nat.reduceAdd, Nat.reduceMul, Nat.reduceEqDiff, reduceCtorEq, b38_PC11, decide_eq_true hc]) | skip)
    exact hno _ fr1
  (first | (simp (maxSteps := 1000000) (disch := first | omega | (simp only [AM.DB, List.length_set, List.length_map]; first | done | omega)) only [AM.RB, Nat.reduceAdd, Nat.reduceMul, Nat.reduceEqDiff, reduceCtorEq, b38_PC11, decide_eq_false hc]) | skip)
  refine parseV_w l (by omega) (by omega) (fun a' b' hv' h2 fr2 => by rw [hv] at hv'; cases hv') (fun L' hv' p kv h2 m2 fr2 hp2 hid2 => ?_)
  rw [hv] at hv'
  cases hv'
  (first | (simp (maxSteps := 1000000) (disch := first | omega | (simp only [AM.DB, List.length_set, List.length_map]; first | done | omega)) only [AM.RB, Nat.reduceAdd, Nat.reduceMul, Nat.reduceEqDiff, reduceCtorEq, b38_PC11, d00]) | skip)
  have ltq := AM.get_some_lt r1.1
  exact hok L p kv q lv h2 hv (by omega) m2 (r1.fr0 fr2) (fr1.trans fr2) (by omega) (fun id q => by have := hid2 id q; omega) (by omega) (fun id q => by have := r1.2.1.lt q; omega)

end Go.Proofs.YtbaohngkapmhlaaDoor
