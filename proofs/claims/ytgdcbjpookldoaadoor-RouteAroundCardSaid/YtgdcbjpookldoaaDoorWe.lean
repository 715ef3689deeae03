/- Walks of this claim's functions, and plain laws. -/
import Derived.Test.YtgdcbjpookldoaaDoorWd
set_option linter.unusedSimpArgs false
set_option linter.unusedVariables false
namespace Go.Proofs.YtgdcbjpookldoaaDoor
open Go.AM
set_option maxRecDepth 8000
theorem b20_RT4 : type_of% (And.intro (@AM.alK_some) (And.intro (@al_22) (And.intro (@al_3) (And.intro (@al_96) (And.intro (@AM.bin_add) (And.intro (@AM.bin_gtr) (And.intro (@AM.bin_leq) (And.intro (@AM.bin_lss) (And.intro (@AM.bin_neq) (And.intro (AM.bsW_int bs_22) (And.intro (AM.bsW_nil bs_22) (And.intro (AM.bsW_slice bs_22) (And.intro (AM.bsW_string bs_22) (And.intro (@AM.ex_tuple) (And.intro (@AM.fa_ptr) (And.intro (@fd_100_2) (And.intro (@AM.iaO_ok) (And.intro (AM.ia_slice el_22) (And.intro (@AM.ldO_agg) (And.intro (@AM.ldO_one) (And.intro (@AM.ld_ptr) (And.intro (AM.len_slice ul_22) (And.intro (@lk_22) (And.intro (@lk_3) (And.intro (@lk_96) (And.intro (@lk_98) (And.intro (@AM.op_alloc) (And.intro (@AM.op_append) (And.intro (@AM.op_binOp) (And.intro (@AM.op_buildSlice) (And.intro (@AM.op_call) (And.intro (@AM.op_extract) (And.intro (@AM.op_fieldAddr) (And.intro (@AM.op_indexAddr) (And.intro (@AM.op_len) (And.intro (@AM.op_load) (And.intro (@AM.op_lookup) (And.intro (@AM.op_mapUpdate) (And.intro (@AM.op_nilCheck) (And.intro (@AM.op_store) (And.intro (@AM.op_unOp) (And.intro (@AM.stO_agg) (And.intro (@AM.stO_bool) (And.intro (@AM.stO_int) (And.intro (@AM.stO_map) (And.intro (@AM.stO_pointer) (And.intro (@AM.stO_slice) (And.intro (@AM.stO_string) (And.intro (@AM.st_ptr) (And.intro (@sz_22) (And.intro (@sz_3) (And.intro (@sz_96) (And.intro (@AM.un_neg) (@AM.un_not)))))))))))))))))))))))))))))))))))))))))))))))))))))) := And.intro (@AM.alK_some) (And.intro (@al_22) (And.intro (@al_3) (And.intro (@al_96) (And.intro (@AM.bin_add) (And.intro (@AM.bin_gtr) (And.intro (@AM.bin_leq) (And.intro (@AM.bin_lss) (And.intro (@AM.bin_neq) (And.intro (AM.bsW_int bs_22) (And.intro (AM.bsW_nil bs_22) (And.intro (AM.bsW_slice bs_22) (And.intro (AM.bsW_string bs_22) (And.intro (@AM.ex_tuple) (And.intro (@AM.fa_ptr) (And.intro (@fd_100_2) (And.intro (@AM.iaO_ok) (And.intro (AM.ia_slice el_22) (And.intro (@AM.ldO_agg) (And.intro (@AM.ldO_one) (And.intro (@AM.ld_ptr) (And.intro (AM.len_slice ul_22) (And.intro (@lk_22) (And.intro (@lk_3) (And.intro (@lk_96) (And.intro (@lk_98) (And.intro (@AM.op_alloc) (And.intro (@AM.op_append) (And.intro (@AM.op_binOp) (And.intro (@AM.op_buildSlice) (And.intro (@AM.op_call) (And.intro (@AM.op_extract) (And.intro (@AM.op_fieldAddr) (And.intro (@AM.op_indexAddr) (And.intro (@AM.op_len) (And.intro (@AM.op_load) (And.intro (@AM.op_lookup) (And.intro (@AM.op_mapUpdate) (And.intro (@AM.op_nilCheck) (And.intro (@AM.op_store) (And.intro (@AM.op_unOp) (And.intro (@AM.stO_agg) (And.intro (@AM.stO_bool) (And.intro (@AM.stO_int) (And.intro (@AM.stO_map) (And.intro (@AM.stO_pointer) (And.intro (@AM.stO_slice) (And.intro (@AM.stO_string) (And.intro (@AM.st_ptr) (And.intro (@sz_22) (And.intro (@sz_3) (And.intro (@sz_96) (And.intro (@AM.un_neg) (@AM.un_not)))))))))))))))))))))))))))))))))))))))))))))))))))))


/-- A map of numbers that has these keys. -/
def keysM (dl : List (Int × Value)) (K : List Int) : Prop := ∀ x, (mgetL dl x).isSome = decide (x ∈ K)
theorem keysM.set {dl : List (Int × Value)} {K : List Int} (h : keysM dl K) (b : Int) (v : Value) (hb : b ∉ K) : keysM (msetL dl b v) (K ++ [b]) := by
  intro x
  rw [AM.mget_set]
  by_cases e : x = b
  · subst e; simp
  · rw [if_neg e, h x]; simp [e]

theorem allP_in {K : List UInt8} {x : Int} : ∀ {n : Nat}, x ∈ allP K n ↔ (0 ≤ x ∧ x < n) ∧ freeP K x = true
  | 0 => ⟨fun h => (by cases h), fun ⟨h, _⟩ => by omega⟩
  | n + 1 => by
    rw [allP, List.mem_append, allP_in (n := n)]
    by_cases h : freeP K n = true
    · rw [if_pos h, List.mem_singleton]
      constructor
      · rintro (⟨h1, h2⟩ | rfl)
        · exact ⟨by omega, h2⟩
        · exact ⟨by omega, h⟩
      · rintro ⟨h1, h2⟩
        by_cases e : x = n
        · exact .inr e
        · exact .inl ⟨by omega, h2⟩
    · rw [if_neg h]
      constructor
      · rintro (⟨h1, h2⟩ | h)
        · exact ⟨by omega, h2⟩
        · cases h
      · rintro ⟨h1, h2⟩
        by_cases e : x = n
        · subst e; exact absurd h2 h
        · exact .inl ⟨by omega, h2⟩
theorem allP_srt (K : List UInt8) : ∀ n, (allP K n).Pairwise (fun a b => a < b)
  | 0 => List.Pairwise.nil
  | n + 1 => by
    rw [allP]
    refine List.pairwise_append.2 ⟨allP_srt K n, ?_, fun a ha b hb => ?_⟩
    · split
      · exact List.pairwise_singleton _ _
      · exact List.Pairwise.nil
    · have h1 := (allP_in.1 ha).1
      split at hb
      · rw [List.mem_singleton.1 hb]; omega
      · cases hb
/-- Those of a list that are keys. -/
def inK (K l : List Int) : List Int := l.filter fun c => decide (c ∈ K)
theorem inK_succ (K : List Int) {l : List Int} {i : Nat} (hi : i < l.length) : inK K (l.take (i + 1)) = inK K (l.take i) ++ if l.getD i 0 ∈ K then [l.getD i 0] else [] := by
  unfold inK
  have e : l.getD i 0 = l[i] := by simp [List.getD, hi]
  rw [List.take_succ_eq_append_getElem hi, List.filter_append, e]
  by_cases h : l[i] ∈ K <;> simp [h]
/-- What the loop over rounds keeps: the search's objects (its box c9, the struct sp, the maps o1, o2), the round's box c11, who came last. -/
structure ArI (h h' : AHeap) (p sp c9 o1 o2 c11 : Nat) (L : List (List UInt8)) (B0 : Nat → Prop) (ml : List (Int × Value)) (K : List Int) (atv : Value) (at' : List Int) (r : Int) (C : Nat → Prop) : Prop where
  g9 : h'.get c9 = some (.cells [pv sp] 96 false)
  gs : h'.get sp = some (.cells [pv p, .map (some o1), .map (some o2)] 100 false)
  gm : h'.get o1 = some (.map (encM ml))
  gd : ∃ dl, h'.get o2 = some (.map (encM dl)) ∧ keysM dl K
  g11 : h'.get c11 = some (.cells [.int .i64 r] 3 false)
  o : Ow h' 3 1 atv at'.length (at'.map (.int .i64))
  new : ∀ id, idOf atv id → h.next + 4 ≤ id
  c : h.next + 4 ≤ c11
  m : Mk h' p L C
  cB : ∀ id, B0 id → C id
  cO : C c9 ∧ C sp ∧ C o1 ∧ C o2 ∧ C c11
  cA : ∀ id, idOf atv id → C id
  fr : Fr (fun id => id = p) h h'

theorem ArI.step {h h1 h2 : AHeap} {p sp c9 o1 o2 c11 : Nat} {L : List (List UInt8)} {B0 T : Nat → Prop} {ml : List (Int × Value)} {K K' : List Int} {atv : Value} {at' : List Int} {r : Int} {C C' : Nat → Prop} (x : ArI h h1 p sp c9 o1 o2 c11 L B0 ml K atv at' r C) (fr : Fr T h1 h2)
    (h9 : ¬ T c9) (hs : ¬ T sp) (ho : ¬ T o1) (h11 : ¬ T c11) (ha : ∀ id, idOf atv id → ¬ T id) (gd : ∃ dl, h2.get o2 = some (.map (encM dl)) ∧ keysM dl K') (m : Mk h2 p L C') (hC : ∀ id, C id → C' id) (frp : Fr (fun id => id = p) h h2) : ArI h h2 p sp c9 o1 o2 c11 L B0 ml K' atv at' r C' :=
  ⟨fr.get x.g9 h9, fr.get x.gs hs, fr.get x.gm ho, gd, fr.get x.g11 h11, x.o.fr fr ha, x.new, x.c, m, fun id q => hC id (x.cB id q), ⟨hC _ x.cO.1, hC _ x.cO.2.1, hC _ x.cO.2.2.1, hC _ x.cO.2.2.2.1, hC _ x.cO.2.2.2.2⟩, fun id q => hC id (x.cA id q), frp⟩

theorem Fr.ext2 {T : Nat → Prop} {h h1 h2 : AHeap} (fr : Fr T h h1) (hB : ∀ id, id < h.next → h2.get id = h1.get id) (hn : h1.next ≤ h2.next) (hl : h2.low = h1.low) : Fr T h h2 :=
  ⟨Nat.le_trans fr.next hn, by rw [hl]; exact fr.low, fun id h3 h4 => by rw [hB id h3]; exact fr.old id h3 h4⟩

theorem Mk.frC {h h' : AHeap} {p : Nat} {L : List (List UInt8)} {B C T : Nat → Prop} (m : Mk h p L B) (fr : Fr T h h') (hT : ∀ id, T id → B id) (hC : ∀ id, C id → B id ∨ (h.next ≤ id ∧ id < h'.next)) : Mk h' p L C := by
  obtain ⟨⟨S, m, hB⟩, hb⟩ := m
  have hn := fr.next
  refine ⟨⟨S, m.fr fr fun id q1 q2 => hB id (hT id q2) q1, fun id q1 q2 => ?_⟩, fun id q => ?_⟩
  · rcases hC id q1 with q | q
    · exact hB id q q2
    · have := m.lt q2; omega
  · rcases hC id q with q | q
    · exact Nat.lt_of_lt_of_le (hb id q) hn
    · exact q.2
/-- Keys stand once each, and those who came last are keys. -/
def goodA (st : List Int × List Int) : Prop := st.1.Nodup ∧ st.2.length ≤ st.1.length
theorem stepA_good {st : List Int × List Int} (g : goodA st) (b : Int) : goodA (stepA st b) := by
  unfold stepA
  split
  · exact g
  · rename_i h
    refine ⟨?_, by have := g.2; simp only [List.length_append, List.length_cons, List.length_nil]; omega⟩
    rw [List.nodup_append]
    refine ⟨g.1, by simp, ?_⟩
    intro a ha c hc
    rw [List.mem_singleton.1 hc]
    rintro rfl
    exact h ha
theorem visA_good {l : List Int} : ∀ {st : List Int × List Int}, goodA st → goodA (visA l st) := by
  induction l with
  | nil => intro st g; exact g
  | cons b l ih => intro st g; exact ih (stepA_good g b)
theorem rndA_good (N : Int → List Int) {l : List Int} : ∀ {st : List Int × List Int}, goodA st → goodA (rndA N l st) := by
  induction l with
  | nil => intro st g; exact g
  | cons b l ih => intro st g; exact ih (visA_good g)
theorem lvlA_good (N : Int → List Int) (r : Int) : ∀ k, goodA (lvlA N r k)
  | 0 => ⟨List.nodup_cons.2 ⟨fun h => (by cases h), List.nodup_nil⟩, Nat.le_refl _⟩
  | k + 1 => rndA_good N ⟨(lvlA_good N r k).1, Nat.zero_le _⟩

set_option maxHeartbeats 8000000 in
theorem around_w {h : AHeap} {p n : Nat} {L : List (List UInt8)} {B0 : Nat → Prop} (m : Mk h p L B0) (f : Fit L) (hw : h.get GW = some (.cells waysC 123 false)) (hgl : GW < h.low) (hgp : ¬ GW = p) (hl : h.low ≤ h.next) (cell far : Int) {s : Value} {B : List Int} (hs : Rd h 3 1 s n (B.map (.int .i64))) (hB0 : ∀ id, idOf s id → B0 id) (hn : n ≤ 4000000) {Q : VQ}
    (hno : freeP L.flatten cell = false ∨ far < 0 → Q (.slice none 0 0) h)
    (hok : freeP L.flatten cell = true → 0 ≤ far → ∀ v (l : List Int) h', Ow h' 3 1 v l.length (l.map (.int .i64)) → l.Pairwise (fun a b => a < b) → (∀ x, x ∈ l ↔ freeP L.flatten x = true ∧ ∃ j : Nat, (j : Int) ≤ far ∧ Wk (nbA L B cell) cell j x) → Mk h' p L B0 → Fr (fun id => id = p) h h' → Q v h') : W 20 [pv p, .int .i64 cell, s, .int .i64 far] h Q := by
  obtain ⟨sa, sc, rfl⟩ := hs.form
  have d20 : decide ((2 : Int) = 0) = false := rfl
  have d00 : decide ((0 : Int) = 0) = true := rfl
  refine AM.enter hp (fn := Tryd.f20) (rs := [.tmp 8]) (nt := 112) (by kernel_rfl) Tryd.func20 rfl rfl rfl (by kernel_rfl) ?_
  (repeat' (first | (simp (maxSteps := 1000000) (disch := first | omega | (simp only [AM.DB, List.length_set, List.length_map]; first | done | omega)) only [AM.RB, Nat.reduceAdd, Nat.reduceMul, Nat.reduceEqDiff, reduceCtorEq, b20_RT4]) | refine AM.drawW_loose (id := 13) hp (by kernel_rfl) (by kernel_rfl) ?_ | refine AM.drawW_fine (id := 17) hp (by kernel_rfl) (by kernel_rfl) (by kernel_rfl) ?_ | refine AM.opW_tied (by kernel_rfl) ?_ | refine AM.opW_untied (by kernel_rfl) ?_))
  refine may_w m f cell cell ?_
  cases hf : freeP L.flatten cell with
  | false =>
    simp only [Bool.false_eq_true, false_and, if_false]
    (repeat' (first | (simp (maxSteps := 1000000) (disch := first | omega | (simp only [AM.DB, List.length_set, List.length_map]; first | done | omega)) only [AM.RB, Nat.reduceAdd, Nat.reduceMul, Nat.reduceEqDiff, reduceCtorEq, b20_RT4, d20]) | refine AM.drawW_loose (id := 13) hp (by kernel_rfl) (by kernel_rfl) ?_ | refine AM.drawW_fine (id := 17) hp (by kernel_rfl) (by kernel_rfl) (by kernel_rfl) ?_ | refine AM.opW_tied (by kernel_rfl) ?_ | refine AM.opW_untied (by kernel_rfl) ?_))
    exact hno (.inl hf)
  | true =>
  simp only [and_self, if_true]
  by_cases hfar : far < 0
  · (repeat' (first | (simp (maxSteps := 1000000) (disch := first | omega | (simp only [AM.DB, List.length_set, List.length_map]; first | done | omega)) only [AM.RB, Nat.reduceAdd, Nat.reduceMul, Nat.reduceEqDiff, reduceCtorEq, b20_RT4, d00, decide_eq_true hfar]) | refine AM.drawW_loose (id := 13) hp (by kernel_rfl) (by kernel_rfl) ?_ | refine AM.drawW_fine (id := 17) hp (by kernel_rfl) (by kernel_rfl) (by kernel_rfl) ?_ | refine AM.opW_tied (by kernel_rfl) ?_ | refine AM.opW_untied (by kernel_rfl) ?_))
    exact hno (.inr hfar)
  (repeat' (first | (simp (maxSteps := 1000000) (disch := first | omega | (simp only [AM.DB, List.length_set, List.length_map]; first | done | omega)) only [AM.RB, Nat.reduceAdd, Nat.reduceMul, Nat.reduceEqDiff, reduceCtorEq, b20_RT4, d00, decide_eq_false hfar]) | refine AM.drawW_loose (id := 13) hp (by kernel_rfl) (by kernel_rfl) ?_ | refine AM.drawW_fine (id := 17) hp (by kernel_rfl) (by kernel_rfl) (by kernel_rfl) ?_ | refine AM.opW_tied (by kernel_rfl) ?_ | refine AM.opW_untied (by kernel_rfl) ?_))
  refine without_w hs hn hl cell fun h1 ml gs1 gm1 om gd1 fr1 n1 => ?_
  have l1 := fr1.low
  have hl1 := fr1.hl hl
  (repeat' (first | (simp (maxSteps := 1000000) (disch := first | omega | (simp only [AM.DB, List.length_set, List.length_map]; first | done | omega)) only [AM.RB, Nat.reduceAdd, Nat.reduceMul, Nat.reduceEqDiff, reduceCtorEq, b20_RT4, gs1]) | refine AM.drawW_loose (id := 13) hp (by kernel_rfl) (by kernel_rfl) ?_ | refine AM.drawW_fine (id := 17) hp (by kernel_rfl) (by kernel_rfl) (by kernel_rfl) ?_ | refine AM.opW_tied (by kernel_rfl) ?_ | refine AM.opW_untied (by kernel_rfl) ?_))
  generalize hE_ : AHeap.put (AHeap.alloc h1 _) _ _ = h2; obtain ⟨g2, fr2, n2, l2⟩ := AM.box_get hE_ (by omega); clear hE_
  have gs2 := gs1.fr0 fr2
  have gm2 := gm1.fr0 fr2
  have gd2 : h2.get (h.next + 1) = some (.map (encM [])) := gd1.fr0 fr2
  have lm2 : h2.low ≤ h.next + 1 := by omega
  (repeat' (first | (simp (maxSteps := 1000000) (disch := first | omega | (simp only [AM.DB, List.length_set, List.length_map]; first | done | omega)) only [AM.RB, Nat.reduceAdd, Nat.reduceMul, Nat.reduceEqDiff, reduceCtorEq, b20_RT4, g2, gs2, AM.update_enc mp_98 gd2 lm2]) | refine AM.drawW_loose (id := 13) hp (by kernel_rfl) (by kernel_rfl) ?_ | refine AM.drawW_fine (id := 17) hp (by kernel_rfl) (by kernel_rfl) (by kernel_rfl) ?_ | refine AM.opW_tied (by kernel_rfl) ?_ | refine AM.opW_untied (by kernel_rfl) ?_))
  generalize hE_ : AHeap.put h2 _ _ = h3; obtain ⟨g3, fr3, n3, l3⟩ := AM.put_get hE_ (by omega); clear hE_
  (repeat' (first | (simp (maxSteps := 1000000) (disch := first | omega | (simp only [AM.DB, List.length_set, List.length_map]; first | done | omega)) only [AM.RB, Nat.reduceAdd, Nat.reduceMul, Nat.reduceEqDiff, reduceCtorEq, b20_RT4]) | refine AM.drawW_loose (id := 13) hp (by kernel_rfl) (by kernel_rfl) ?_ | refine AM.drawW_fine (id := 17) hp (by kernel_rfl) (by kernel_rfl) (by kernel_rfl) ?_ | refine AM.opW_tied (by kernel_rfl) ?_ | refine AM.opW_untied (by kernel_rfl) ?_))
  generalize hE_ : AHeap.alloc h3 _ = h4; obtain ⟨g4, fr4, n4, l4⟩ := AM.new_get hE_; clear hE_
  generalize hE_ : AHeap.put (AHeap.alloc h4 _) _ _ = h5; obtain ⟨g5, fr5, n5, l5⟩ := AM.box_get hE_ (by omega); clear hE_
  have fr05 : Fr none' h h5 := (((fr1.trans fr2).fresh fr3 (fun id q => by omega)).trans fr4).trans fr5
  have lmp := m.lt
  have i5 : ArI h h5 p (h.next + 2) h1.next h.next (h.next + 1) (h2.next + 1) L B0 ml [cell] (.slice (some ⟨h2.next, 0, none⟩) 1 1) [cell] 1 (fun id => B0 id ∨ (h.next ≤ id ∧ id < h5.next)) := by
    refine ⟨?_, ?_, ?_, ⟨_, (g3.fr0 fr4).fr0 fr5, ?_⟩, g5, ?_, fun id q => ?_, by omega, ?_, fun id q => .inl q, ⟨.inr (by omega), .inr (by omega), .inr (by omega), .inr (by omega), .inr (by omega)⟩, fun id q => .inr (by have q : id = h2.next := q; omega), fr05.weak⟩
    · exact ((fr3.get g2 (fun q => by omega)).fr0 fr4).fr0 fr5
    · exact ((fr3.get gs2 (fun q => by omega)).fr0 fr4).fr0 fr5
    · exact ((fr3.get gm2 (fun q => by omega)).fr0 fr4).fr0 fr5
    · exact (keysM.set (dl := []) (K := []) (fun x => by simp [mgetL]) cell _ (by simp))
    · exact (show Ow h4 3 1 (.slice (some ⟨h2.next, 0, none⟩) 1 1) 1 ([cell].map (.int .i64)) from by rw [← n3]; exact AM.Ow.whole (n := 1) g4 rfl (by omega)).fr0 fr5
    · have q : id = h2.next := q
      omega
    · exact m.more fr05 fun id q => q
  have hl5 := fr05.hl hl
  have hNd : ∀ b : Int, 0 ≤ b ∧ b < L.flatten.length → ∀ c ∈ nbA L B cell b, 0 ≤ c ∧ c < L.flatten.length := by
    intro b hb c hc
    have hc1 : decide (c ∈ nextL L b) = true := decide_eq_true (List.mem_filter.1 hc).1
    rw [edge_mem f] at hc1
    have := freeP_in (edgeL_facts hc1).2.2.2
    omega
  have hr : 0 ≤ cell ∧ cell < L.flatten.length := freeP_in hf
  have hK := f.k1024
  refine AM.loop_w hp 112 (fun z : Nat × Value × Nat => [(0, pv p), (3, .int .i64 far), (9, pv h1.next), (10, z.2.1), (11, pv z.2.2)])
    (fun z h' => z.1 ≤ L.flatten.length ∧ (z.1 : Int) ≤ far ∧ ∃ C, ArI h h' p (h.next + 2) h1.next h.next (h.next + 1) z.2.2 L B0 ml (lvlA (nbA L B cell) cell z.1).1 z.2.1 (lvlA (nbA L B cell) cell z.1).2 (z.1 + 1) C) (fun z => L.flatten.length + 1 - z.1) (by kernel_rfl) (0, .slice (some ⟨h2.next, 0, none⟩) 1 1, h2.next + 1) ?_ ?_ ?_
  · simp (maxSteps := 1000000) (disch := first | omega | (simp only [AM.DB, List.length_set, List.length_map]; first | done | omega)) only [AM.RB, Nat.reduceAdd, Nat.reduceMul, Nat.reduceEqDiff, reduceCtorEq, b20_RT4]
    first | rfl | skip
  · exact ⟨Nat.zero_le _, by simp only; omega, _, i5⟩
  rintro ⟨k, atv, c11⟩ h6 ρ6 ⟨hk, hkf, C6, i6⟩
  simp only at hk hkf i6 ⊢
  have hl6 := i6.fr.hl hl
  obtain ⟨aa, ac, rfl⟩ := i6.o.form
  have g11 := i6.g11
  have sp6 := fun x => lvlA_spec (nbA L B cell) cell k x
  (repeat' (first | (simp (maxSteps := 1000000) (disch := first | omega | (simp only [AM.DB, List.length_set, List.length_map]; first | done | omega)) only [AM.RB, Nat.reduceAdd, Nat.reduceMul, Nat.reduceEqDiff, reduceCtorEq, b20_RT4, g11]) | refine AM.drawW_loose (id := 13) hp (by kernel_rfl) (by kernel_rfl) ?_ | refine AM.drawW_fine (id := 17) hp (by kernel_rfl) (by kernel_rfl) (by kernel_rfl) ?_ | refine AM.opW_tied (by kernel_rfl) ?_ | refine AM.opW_untied (by kernel_rfl) ?_))
  have alt : (decide ((k : Int) + 1 ≤ far) = true ∧ decide (0 < (((lvlA (nbA L B cell) cell k).2.length : Nat) : Int)) = true) ∨ (((decide ((k : Int) + 1 ≤ far) = false) ∨ (decide ((k : Int) + 1 ≤ far) = true ∧ decide (0 < (((lvlA (nbA L B cell) cell k).2.length : Nat) : Int)) = false)) ∧ ∀ x, x ∈ (lvlA (nbA L B cell) cell k).1 ↔ ∃ j : Nat, (j : Int) ≤ far ∧ Wk (nbA L B cell) cell j x) := by
    by_cases c1 : (k : Int) + 1 ≤ far
    · by_cases c2 : 0 < (((lvlA (nbA L B cell) cell k).2.length : Nat) : Int)
      · exact .inl ⟨decide_eq_true c1, decide_eq_true c2⟩
      · refine .inr ⟨.inr ⟨decide_eq_true c1, decide_eq_false c2⟩, fun x => ?_⟩
        have e : (lvlA (nbA L B cell) cell k).2 = [] := List.length_eq_zero_iff.1 (by omega)
        rw [lvlA_end e far.toNat (by omega) x]
        constructor
        · rintro ⟨j, hj, w⟩; exact ⟨j, by omega, w⟩
        · rintro ⟨j, hj, w⟩; exact ⟨j, by omega, w⟩
    · refine .inr ⟨.inl (decide_eq_false c1), fun x => ?_⟩
      rw [(sp6 x).1]
      constructor
      · rintro ⟨j, hj, w⟩; exact ⟨j, by omega, w⟩
      · rintro ⟨j, hj, w⟩; exact ⟨j, by omega, w⟩
  rcases alt with ⟨c1, c2⟩ | ⟨c, fin⟩
  case' inr =>
    rcases c with c1 | ⟨c1, c2⟩
  case' inr.inl => (repeat' (first | (simp (maxSteps := 1000000) (disch := first | omega | (simp only [AM.DB, List.length_set, List.length_map]; first | done | omega)) only [AM.RB, Nat.reduceAdd, Nat.reduceMul, Nat.reduceEqDiff, reduceCtorEq, b20_RT4, c1]) | refine AM.drawW_loose (id := 13) hp (by kernel_rfl) (by kernel_rfl) ?_ | refine AM.drawW_fine (id := 17) hp (by kernel_rfl) (by kernel_rfl) (by kernel_rfl) ?_ | refine AM.opW_tied (by kernel_rfl) ?_ | refine AM.opW_untied (by kernel_rfl) ?_))
  case' inr.inr => (repeat' (first | (simp (maxSteps := 1000000) (disch := first | omega | (simp only [AM.DB, List.length_set, List.length_map]; first | done | omega)) only [AM.RB, Nat.reduceAdd, Nat.reduceMul, Nat.reduceEqDiff, reduceCtorEq, b20_RT4, c1, c2]) | refine AM.drawW_loose (id := 13) hp (by kernel_rfl) (by kernel_rfl) ?_ | refine AM.drawW_fine (id := 17) hp (by kernel_rfl) (by kernel_rfl) (by kernel_rfl) ?_ | refine AM.opW_tied (by kernel_rfl) ?_ | refine AM.opW_untied (by kernel_rfl) ?_))
  case' inr.inl | inr.inr =>
    obtain ⟨kv, tl, mm⟩ := i6.m.mp
    refine all_w mm f.rows (by omega) hl6 _ fun vA h7 oA fr7 hidA => ?_
    have hl7 := fr7.hl hl6
    obtain ⟨ba, bc, rfl⟩ := oA.form
    have g97 := i6.g9.fr0 fr7
    have gs7 := i6.gs.fr0 fr7
    obtain ⟨dl, gd6, kd⟩ := i6.gd
    have gd7 := gd6.fr0 fr7
    have lA : (allP L.flatten L.flatten.length).length ≤ L.flatten.length := allP_len _ _
    (repeat' (first | (simp (maxSteps := 1000000) (disch := first | omega | (simp only [AM.DB, List.length_set, List.length_map]; first | done | omega)) only [AM.RB, Nat.reduceAdd, Nat.reduceMul, Nat.reduceEqDiff, reduceCtorEq, b20_RT4]) | refine AM.drawW_loose (id := 13) hp (by kernel_rfl) (by kernel_rfl) ?_ | refine AM.drawW_fine (id := 17) hp (by kernel_rfl) (by kernel_rfl) (by kernel_rfl) ?_ | refine AM.opW_tied (by kernel_rfl) ?_ | refine AM.opW_untied (by kernel_rfl) ?_))
    refine AM.loop_w hp 112 (fun z : Nat × Value => [(9, pv h1.next), (18, z.2), (90, .slice ba (allP L.flatten L.flatten.length).length bc), (91, .int .i64 (allP L.flatten L.flatten.length).length), (92, .int .i64 z.1)])
      (fun z h' => z.1 ≤ (allP L.flatten L.flatten.length).length ∧ Ow h' 3 1 z.2 (inK (lvlA (nbA L B cell) cell k).1 ((allP L.flatten L.flatten.length).take z.1)).length ((inK (lvlA (nbA L B cell) cell k).1 ((allP L.flatten L.flatten.length).take z.1)).map (.int .i64)) ∧ Fr none' h7 h' ∧ ∀ id, idOf z.2 id → h7.next ≤ id) (fun z => (allP L.flatten L.flatten.length).length - z.1) (by kernel_rfl) (0, .slice none 0 0) ?_ ?_ ?_
    · simp (maxSteps := 1000000) (disch := first | omega | (simp only [AM.DB, List.length_set, List.length_map]; first | done | omega)) only [AM.RB, Nat.reduceAdd, Nat.reduceMul, Nat.reduceEqDiff, reduceCtorEq, b20_RT4]
      first | rfl | skip
    · exact ⟨Nat.zero_le _, Ow.nil _ _ _, Fr.refl _ _, fun _ t => t.elim⟩
    rintro ⟨t, vo⟩ h8 ρ8 ⟨ht, o8, fr8, hid8⟩
    simp only at ht o8 hid8
    obtain ⟨ca, cc, rfl⟩ := o8.form
    have hl8 := fr8.hl hl7
    have rA := (oA.fr0 fr8).rd
    have g98 := g97.fr0 fr8
    have gs8 := gs7.fr0 fr8
    have gd8 := gd7.fr0 fr8
    (repeat' (first | (simp (maxSteps := 1000000) (disch := first | omega | (simp only [AM.DB, List.length_set, List.length_map]; first | done | omega)) only [AM.RB, Nat.reduceAdd, Nat.reduceMul, Nat.reduceEqDiff, reduceCtorEq, b20_RT4]) | refine AM.drawW_loose (id := 13) hp (by kernel_rfl) (by kernel_rfl) ?_ | refine AM.drawW_fine (id := 17) hp (by kernel_rfl) (by kernel_rfl) (by kernel_rfl) ?_ | refine AM.opW_tied (by kernel_rfl) ?_ | refine AM.opW_untied (by kernel_rfl) ?_))
    refine AM.condV_split (fun htt => ?_) (fun htt => ?_)
    · have htl : t < (allP L.flatten L.flatten.length).length := by omega
      have ks := inK_succ (lvlA (nbA L B cell) cell k).1 htl
      have lk : (inK (lvlA (nbA L B cell) cell k).1 ((allP L.flatten L.flatten.length).take t)).length ≤ t := Nat.le_trans (List.length_filter_le _ _) (by simp; omega)
      generalize hcc : (allP L.flatten L.flatten.length).getD t 0 = c at *
      have kc := kd c
      by_cases hc : c ∈ (lvlA (nbA L B cell) cell k).1
      · rw [decide_eq_true hc] at kc
        rw [if_pos hc] at ks
        (repeat' (first | (simp (maxSteps := 1000000) (disch := first | omega | (simp only [AM.DB, List.length_set, List.length_map]; first | done | omega)) only [AM.RB, Nat.reduceAdd, Nat.reduceMul, Nat.reduceEqDiff, reduceCtorEq, b20_RT4, rA.ia el_22, Rd.ldi rA lk_3, Int.toNat_natCast, hcc, g98, gs8, AM.lookup_enc2 mp_98 gd8, kc]) | refine AM.drawW_loose (id := 13) hp (by kernel_rfl) (by kernel_rfl) ?_ | refine AM.drawW_fine (id := 17) hp (by kernel_rfl) (by kernel_rfl) (by kernel_rfl) ?_ | refine AM.opW_tied (by kernel_rfl) ?_ | refine AM.opW_untied (by kernel_rfl) ?_))
        generalize hE_ : AHeap.alloc h8 _ = h9; obtain ⟨g9, fr9, n9, l9⟩ := AM.new_get hE_; clear hE_
        refine AM.appends_w ap_22 ap_22 (o8.fr0 fr9) (AM.Rd.whole (n := 1) (c := [.int .i64 c]) g9 rfl) rfl (by omega) (AM.fits (by omega) (by omega)) (AM.fits' (by omega)) fun v10 h10 o10 fr10 hid10 => ?_
        have n8 := fr8.next
        (repeat' (first | (simp (maxSteps := 1000000) (disch := first | omega | (simp only [AM.DB, List.length_set, List.length_map]; first | done | omega)) only [AM.RB, Nat.reduceAdd, Nat.reduceMul, Nat.reduceEqDiff, reduceCtorEq, b20_RT4, AM.wrap_i64]) | refine AM.drawW_loose (id := 13) hp (by kernel_rfl) (by kernel_rfl) ?_ | refine AM.drawW_fine (id := 17) hp (by kernel_rfl) (by kernel_rfl) (by kernel_rfl) ?_ | refine AM.opW_tied (by kernel_rfl) ?_ | refine AM.opW_untied (by kernel_rfl) ?_))
        refine ⟨(t + 1, v10), by simp only; omega, ?_, by simp only; omega, ?_, (fr8.trans fr9).fresh fr10 (fun id q => hid8 id q), fun id q => (hid10 id q).elim (hid8 id) (fun q => by omega)⟩
        · simp (maxSteps := 1000000) (disch := first | omega | (simp only [AM.DB, List.length_set, List.length_map]; first | done | omega)) only [AM.RB, Nat.reduceAdd, Nat.reduceMul, Nat.reduceEqDiff, reduceCtorEq, b20_RT4]
          first | rfl | skip
        · simp only
          rw [ks]
          simpa using o10
      · rw [decide_eq_false hc] at kc
        rw [if_neg hc, List.append_nil] at ks
        (repeat' (first | (simp (maxSteps := 1000000) (disch := first | omega | (simp only [AM.DB, List.length_set, List.length_map]; first | done | omega)) only [AM.RB, Nat.reduceAdd, Nat.reduceMul, Nat.reduceEqDiff, reduceCtorEq, b20_RT4, rA.ia el_22, Rd.ldi rA lk_3, Int.toNat_natCast, hcc, g98, gs8, AM.lookup_enc2 mp_98 gd8, kc, AM.wrap_i64]) | refine AM.drawW_loose (id := 13) hp (by kernel_rfl) (by kernel_rfl) ?_ | refine AM.drawW_fine (id := 17) hp (by kernel_rfl) (by kernel_rfl) (by kernel_rfl) ?_ | refine AM.opW_tied (by kernel_rfl) ?_ | refine AM.opW_untied (by kernel_rfl) ?_))
        refine ⟨(t + 1, _), by simp only; omega, ?_, by simp only; omega, ?_, fr8, hid8⟩
        · simp (maxSteps := 1000000) (disch := first | omega | (simp only [AM.DB, List.length_set, List.length_map]; first | done | omega)) only [AM.RB, Nat.reduceAdd, Nat.reduceMul, Nat.reduceEqDiff, reduceCtorEq, b20_RT4]
          first | rfl | skip
        · simp only
          rw [ks]; exact o8
    · obtain rfl : t = (allP L.flatten L.flatten.length).length := by omega
      (repeat' (first | (simp (maxSteps := 1000000) (disch := first | omega | (simp only [AM.DB, List.length_set, List.length_map]; first | done | omega)) only [AM.RB, Nat.reduceAdd, Nat.reduceMul, Nat.reduceEqDiff, reduceCtorEq, b20_RT4]) | refine AM.drawW_loose (id := 13) hp (by kernel_rfl) (by kernel_rfl) ?_ | refine AM.drawW_fine (id := 17) hp (by kernel_rfl) (by kernel_rfl) (by kernel_rfl) ?_ | refine AM.opW_tied (by kernel_rfl) ?_ | refine AM.opW_untied (by kernel_rfl) ?_))
      have fr68 := fr7.trans fr8
      refine hok hf (by omega) _ _ _ o8 ?_ (fun x => ?_) (i6.m.more fr68 fun id q => .inl (i6.cB id q)) (i6.fr.trans fr68.weak)
      · rw [List.take_length]; exact (allP_srt _ _).sublist List.filter_sublist
      · rw [List.take_length]
        unfold inK
        rw [List.mem_filter, allP_in, decide_eq_true_iff, fin x]
        exact ⟨fun q => ⟨q.1.2, q.2⟩, fun q => ⟨⟨freeP_in q.1, q.1⟩, q.2⟩⟩
  have hlen : 0 < (lvlA (nbA L B cell) cell k).2.length := by have := of_decide_eq_true c2; omega
  have hk1 : k < L.flatten.length := by
    obtain ⟨l, h1, h2, h3⟩ := isD.chain (N := nbA L B cell) hr hNd k _ ((sp6 ((lvlA (nbA L B cell) cell k).2.getD 0 0)).2.1 (by
      have e : (lvlA (nbA L B cell) cell k).2.getD 0 0 = (lvlA (nbA L B cell) cell k).2[0] := by simp [List.getD, hlen]
      rw [e]; exact List.getElem_mem hlen))
    have := nodup_len h2 fun z hz => (h3 z hz).1
    omega
  have hAd : ∀ x, x ∈ (lvlA (nbA L B cell) cell k).2 → 0 ≤ x ∧ x < L.flatten.length := fun x hx => Wk.ok (ok := fun z => 0 ≤ z ∧ z < (L.flatten.length : Int)) hr hNd ((sp6 x).2.1 hx).1
  have gd0 := lvlA_good (nbA L B cell) cell k
  have hK0r : ∀ x, x ∈ (lvlA (nbA L B cell) cell k).1 → 0 ≤ x ∧ x < L.flatten.length := fun x hx => by
    obtain ⟨j, _, w⟩ := (sp6 x).1.1 hx
    exact Wk.ok (ok := fun z => 0 ≤ z ∧ z < (L.flatten.length : Int)) hr hNd w
  have eL : lvlA (nbA L B cell) cell (k + 1) = rndA (nbA L B cell) (lvlA (nbA L B cell) cell k).2 ((lvlA (nbA L B cell) cell k).1, []) := rfl
  generalize lvlA (nbA L B cell) cell k = st at *
  obtain ⟨K0, A⟩ := st
  simp only at *
  (repeat' (first | (simp (maxSteps := 1000000) (disch := first | omega | (simp only [AM.DB, List.length_set, List.length_map]; first | done | omega)) only [AM.RB, Nat.reduceAdd, Nat.reduceMul, Nat.reduceEqDiff, reduceCtorEq, b20_RT4, c1, c2]) | refine AM.drawW_loose (id := 13) hp (by kernel_rfl) (by kernel_rfl) ?_ | refine AM.drawW_fine (id := 17) hp (by kernel_rfl) (by kernel_rfl) (by kernel_rfl) ?_ | refine AM.opW_tied (by kernel_rfl) ?_ | refine AM.opW_untied (by kernel_rfl) ?_))
  generalize hE_ : AHeap.alloc h6 _ = h7; obtain ⟨g7, fr7, n7, l7⟩ := AM.new_get hE_; clear hE_
  have i7 : ArI h h7 p (h.next + 2) h1.next h.next (h.next + 1) c11 L B0 ml K0 (.slice aa A.length ac) A (k + 1) (fun id => C6 id ∨ id = h6.next) := by
    obtain ⟨dl, gd6, kd⟩ := i6.gd
    exact i6.step fr7 (fun q => q) (fun q => q) (fun q => q) (fun q => q) (fun _ _ q => q) ⟨dl, gd6.fr0 fr7, kd⟩ (i6.m.more fr7 fun id q => q.elim .inl fun q => .inr (by omega)) (fun id q => .inl q) (i6.fr.trans fr7.weak)
  have lt11 := AM.get_some_lt i6.g11
  have lta := fun id (q : idOf (.slice aa A.length ac) id) => i6.o.lt q
  have new6 := i6.fr.next
  refine AM.loop_w hp 112 (fun z : Nat × Value => [(0, pv p), (3, .int .i64 far), (9, pv h1.next), (11, pv c11), (12, pv h6.next), (53, .slice aa A.length ac), (54, .int .i64 A.length), (55, .int .i64 z.1)])
    (fun z h' => z.1 ≤ A.length ∧ ∃ C, ArI h h' p (h.next + 2) h1.next h.next (h.next + 1) c11 L B0 ml (rndA (nbA L B cell) (A.take z.1) (K0, [])).1 (.slice aa A.length ac) A (k + 1) C ∧ C h6.next ∧ (∀ id, idOf z.2 id → C id) ∧ h'.get h6.next = some (.cells [z.2] 22 false) ∧ Ow h' 3 1 z.2 (rndA (nbA L B cell) (A.take z.1) (K0, [])).2.length ((rndA (nbA L B cell) (A.take z.1) (K0, [])).2.map (.int .i64)) ∧ (∀ id, idOf z.2 id → h6.next + 1 ≤ id) ∧ h7.next ≤ h'.next) (fun z => A.length - z.1) (by kernel_rfl) (0, .slice none 0 0) ?_ ?_ ?_
  · simp (maxSteps := 1000000) (disch := first | omega | (simp only [AM.DB, List.length_set, List.length_map]; first | done | omega)) only [AM.RB, Nat.reduceAdd, Nat.reduceMul, Nat.reduceEqDiff, reduceCtorEq, b20_RT4]
    first | rfl | skip
  · exact ⟨Nat.zero_le _, _, i7, .inr rfl, fun _ q => q.elim, g7, Ow.nil _ _ _, fun _ q => q.elim, Nat.le_refl _⟩
  rintro ⟨i, vn⟩ h8 ρ8 ⟨hi, C8, i8, c12, cvn, g12, o8, new8, nx8⟩
  simp only at hi i8 cvn g12 o8 new8
  have hl8 := i8.fr.hl hl
  obtain ⟨na, nc, rfl⟩ := o8.form
  have r8 := i8.o.rd
  have g98 := i8.g9
  (repeat' (first | (simp (maxSteps := 1000000) (disch := first | omega | (simp only [AM.DB, List.length_set, List.length_map]; first | done | omega)) only [AM.RB, Nat.reduceAdd, Nat.reduceMul, Nat.reduceEqDiff, reduceCtorEq, b20_RT4]) | refine AM.drawW_loose (id := 13) hp (by kernel_rfl) (by kernel_rfl) ?_ | refine AM.drawW_fine (id := 17) hp (by kernel_rfl) (by kernel_rfl) (by kernel_rfl) ?_ | refine AM.opW_tied (by kernel_rfl) ?_ | refine AM.opW_untied (by kernel_rfl) ?_))
  refine AM.condV_split (fun hit => ?_) (fun hit => ?_)
  case' refine_2 =>
    obtain rfl : i = A.length := by omega
    have eE : rndA (nbA L B cell) (A.take A.length) (K0, []) = lvlA (nbA L B cell) cell (k + 1) := by rw [List.take_length, ← eL]
    rw [eE] at i8 cvn g12 o8 new8
    have c1' := of_decide_eq_true c1
    have ic := i8.c
    have g118 := i8.g11
    (repeat' (first | (simp (maxSteps := 1000000) (disch := first | omega | (simp only [AM.DB, List.length_set, List.length_map]; first | done | omega)) only [AM.RB, Nat.reduceAdd, Nat.reduceMul, Nat.reduceEqDiff, reduceCtorEq, b20_RT4, g12, g118]) | refine AM.drawW_loose (id := 13) hp (by kernel_rfl) (by kernel_rfl) ?_ | refine AM.drawW_fine (id := 17) hp (by kernel_rfl) (by kernel_rfl) (by kernel_rfl) ?_ | refine AM.opW_tied (by kernel_rfl) ?_ | refine AM.opW_untied (by kernel_rfl) ?_))
    generalize hE_ : AHeap.put (AHeap.alloc h8 _) _ _ = h9; obtain ⟨g9, fr9, n9, l9⟩ := AM.box_get hE_ (by omega); clear hE_
    generalize hE_ : AHeap.put h9 _ _ = h10; obtain ⟨g10, fr10, n10, l10⟩ := AM.put_get hE_ (by omega); clear hE_
    have ew : IntKind.i64.wrap ((k : Int) + 1 + 1) = k + 1 + 1 := AM.wrap_i64 (by omega) (by omega)
    rw [ew] at g10
    have lt8 := fun id (q : id < h8.next) => show ¬ (id = h8.next) from by omega
    have m8 := i8.fr.next
    have k9 := i8.g9.fr0 fr9
    have ks := i8.gs.fr0 fr9
    have km := i8.gm.fr0 fr9
    obtain ⟨dl, gd8, kd⟩ := i8.gd
    have fr810 : Fr none' h8 h10 := fr9.fresh fr10 (fun id q => by have q : id = h8.next := q; omega)
    refine ⟨(k + 1, .slice na (lvlA (nbA L B cell) cell (k + 1)).2.length nc, h8.next), by simp only; omega, ⟨rfl, rfl⟩, by simp only; omega, by simp only; omega, fun id => C8 id ∨ id = h8.next, ⟨i8.g9.fr0 fr810, i8.gs.fr0 fr810, i8.gm.fr0 fr810, ⟨dl, gd8.fr0 fr810, kd⟩, ?_, ?_, fun id q => ?_, ?_, ?_, fun id q => .inl (i8.cB id q), ⟨.inl i8.cO.1, .inl i8.cO.2.1, .inl i8.cO.2.2.1, .inl i8.cO.2.2.2.1, .inr rfl⟩, fun id q => .inl (cvn id q), i8.fr.trans fr810.weak⟩⟩
    · simp only
      rw [g10]; rfl
    · exact o8.fr0 fr810
    · have := new8 id q
      omega
    · show h.next + 4 ≤ h8.next
      omega
    · exact i8.m.more fr810 fun id q => q.elim .inl fun q => .inr (by have q : id = h8.next := q; omega)
  have hil : i < A.length := by omega
  have rs := rndA_succ (nbA L B cell) hil (K0, [])
  have haA : A.getD i 0 ∈ A := by
    have e : A.getD i 0 = A[i] := by simp [List.getD, hil]
    rw [e]; exact List.getElem_mem hil
  have had := hAd _ haA
  obtain ⟨a, ha⟩ : ∃ a, A.getD i 0 = a := ⟨_, rfl⟩
  rw [ha] at rs had
  have hw8 := i8.fr.get hw hgp
  have low8 := i8.fr.low
  (repeat' (first | (simp (maxSteps := 1000000) (disch := first | omega | (simp only [AM.DB, List.length_set, List.length_map]; first | done | omega)) only [AM.RB, Nat.reduceAdd, Nat.reduceMul, Nat.reduceEqDiff, reduceCtorEq, b20_RT4, r8.ia el_22, Rd.ldi r8 lk_3, Int.toNat_natCast, ha, g98]) | refine AM.drawW_loose (id := 13) hp (by kernel_rfl) (by kernel_rfl) ?_ | refine AM.drawW_fine (id := 17) hp (by kernel_rfl) (by kernel_rfl) (by kernel_rfl) ?_ | refine AM.opW_tied (by kernel_rfl) ?_ | refine AM.opW_untied (by kernel_rfl) ?_))
  refine nextK_w i8.m f hw8 (by omega) hl8 a fun vN h9 m9 oN fr9 hidN => ?_
  obtain ⟨ka, kc, rfl⟩ := oN.form
  have hl9 := fr9.hl hl8
  (repeat' (first | (simp (maxSteps := 1000000) (disch := first | omega | (simp only [AM.DB, List.length_set, List.length_map]; first | done | omega)) only [AM.RB, Nat.reduceAdd, Nat.reduceMul, Nat.reduceEqDiff, reduceCtorEq, b20_RT4]) | refine AM.drawW_loose (id := 13) hp (by kernel_rfl) (by kernel_rfl) ?_ | refine AM.drawW_fine (id := 17) hp (by kernel_rfl) (by kernel_rfl) (by kernel_rfl) ?_ | refine AM.opW_tied (by kernel_rfl) ?_ | refine AM.opW_untied (by kernel_rfl) ?_))
  refine sfree_w fun h10 gA gB fr10 n10 l10 => ?_
  (repeat' (first | (simp (maxSteps := 1000000) (disch := first | omega | (simp only [AM.DB, List.length_set, List.length_map]; first | done | omega)) only [AM.RB, Nat.reduceAdd, Nat.reduceMul, Nat.reduceEqDiff, reduceCtorEq, b20_RT4]) | refine AM.drawW_loose (id := 13) hp (by kernel_rfl) (by kernel_rfl) ?_ | refine AM.drawW_fine (id := 17) hp (by kernel_rfl) (by kernel_rfl) (by kernel_rfl) ?_ | refine AM.opW_tied (by kernel_rfl) ?_ | refine AM.opW_untied (by kernel_rfl) ?_))
  have g99 := fr9.get g98 (show ¬ h1.next = p by have := m.lt; omega)
  have lt98 := AM.get_some_lt g98
  have spN : h.next + 2 < h8.next := AM.get_some_lt i8.gs
  refine ⟨AM.looseOk_by [(0, [0, 4])] (by kernel_rfl) ?_, ?_⟩
  · simp (maxSteps := 1000000) (disch := first | omega | (simp only [AM.DB, List.length_set, List.length_map]; first | done | omega)) only [AM.RB, Nat.reduceAdd, Nat.reduceMul, Nat.reduceEqDiff, reduceCtorEq, b20_RT4]
    (repeat' apply And.intro) <;> (first | (refine AM.stable_len _ _ _ _ _ _ (fun _ => ?_); (simp (maxSteps := 1000000) (disch := first | omega | (simp only [AM.DB, List.length_set, List.length_map]; first | done | omega)) only [AM.RB, Nat.reduceAdd, Nat.reduceMul, Nat.reduceEqDiff, reduceCtorEq, b20_RT4, g98, g99])) | (refine AM.stable_load _ _ _ _ _ _ ?_; (first | (simp (maxSteps := 1000000) (disch := first | omega | (simp only [AM.DB, List.length_set, List.length_map]; first | done | omega)) only [AM.RB, Nat.reduceAdd, Nat.reduceMul, Nat.reduceEqDiff, reduceCtorEq, b20_RT4, g98, g99]) | skip); (first | (refine AM.stabL_int (by omega) ?_; (simp (maxSteps := 1000000) (disch := first | omega | (simp only [AM.DB, List.length_set, List.length_map]; first | done | omega)) only [AM.RB, Nat.reduceAdd, Nat.reduceMul, Nat.reduceEqDiff, reduceCtorEq, b20_RT4, g98, g99])) | (refine AM.stabL_ptr (by omega) (by omega) ?_; (simp (maxSteps := 1000000) (disch := first | omega | (simp only [AM.DB, List.length_set, List.length_map]; first | done | omega)) only [AM.RB, Nat.reduceAdd, Nat.reduceMul, Nat.reduceEqDiff, reduceCtorEq, b20_RT4, g98, g99])) | (refine AM.stabL_string (by omega) ?_; (simp (maxSteps := 1000000) (disch := first | omega | (simp only [AM.DB, List.length_set, List.length_map]; first | done | omega)) only [AM.RB, Nat.reduceAdd, Nat.reduceMul, Nat.reduceEqDiff, reduceCtorEq, b20_RT4, g98, g99])) | (refine AM.stabL_bool (by omega) ?_; (simp (maxSteps := 1000000) (disch := first | omega | (simp only [AM.DB, List.length_set, List.length_map]; first | done | omega)) only [AM.RB, Nat.reduceAdd, Nat.reduceMul, Nat.reduceEqDiff, reduceCtorEq, b20_RT4, g98, g99])))))
  have lp := i8.m.lt
  have pn : p < h.next := m.lt
  have fr810 : Fr (fun id => id = p) h8 h10 := fr9.trans fr10.weak
  have i10 : ArI h h10 p (h.next + 2) h1.next h.next (h.next + 1) c11 L B0 ml (rndA (nbA L B cell) (A.take i) (K0, [])).1 (.slice aa A.length ac) A (k + 1) (fun id => C8 id ∨ id = h9.next ∨ id = h9.next + 1) := by
    obtain ⟨dl, gd8, kd⟩ := i8.gd
    have ic := i8.c
    exact i8.step fr810 (by omega) (by omega) (by omega) (by omega) (fun id q => by have := i8.new id q; omega) ⟨dl, fr810.get gd8 (by omega), kd⟩ (m9.more fr10 fun id q => q.elim .inl fun q => .inr (by omega)) (fun id q => .inl q) (i8.fr.trans fr810)
  have g1210 := fr810.get g12 (show ¬ h6.next = p by omega)
  have o10 := o8.fr fr810 (fun id q q2 => by have := new8 id q; omega)
  have rN := oN.rd.fr0 fr10
  have hl10 := fr10.hl hl9
  have n9 := fr9.next
  have lt12 := AM.get_some_lt g12
  generalize hst : rndA (nbA L B cell) (A.take i) (K0, []) = st at *
  let core : Nat → (Nat → Prop) → AHeap → Prop := fun t S h' => ∃ vn', h'.get h6.next = some (.cells [vn'] 22 false) ∧ (∃ dl, h'.get (h.next + 1) = some (.map (encM dl)) ∧ keysM dl (visA ((nbA L B cell a).take t) st).1) ∧
    Ow h' 3 1 vn' (visA ((nbA L B cell a).take t) st).2.length ((visA ((nbA L B cell a).take t) st).2.map (.int .i64)) ∧ (∀ id, idOf vn' id → S id ∨ idOf (.slice na st.2.length nc) id) ∧ (∀ id, S id → h10.next ≤ id) ∧
    Fr (fun id => id = h.next + 1 ∨ id = h6.next ∨ idOf (.slice na st.2.length nc) id) h10 h'
  refine AM.range_iter hp (R := fun id => id = h9.next + 1 ∨ id = h9.next ∨ id = h.next + 2 ∨ id = h.next ∨ idOf (.slice ka (nextL L a).length kc) id) (xs := (nbA L B cell a).map fun c => [.int .i64 c]) (AM.entersV_of Tryd.func82 rfl) (by kernel_rfl) (by kernel_rfl) ?_ ?_ hl10 ?_
    (fun t => AM.JK h10.next (core t)) (fun _ _ _ => False) ?_ (fun _ => AM.Stab.no) (fun env x => (env.set 64 (x.getD 0 undef)).set 15 (x.getD 0 undef)) ?_ ?_ ?_ ?_ ?_
  · intro y hy; obtain ⟨q, _, rfl⟩ := List.mem_map.1 hy; rfl
  · rintro id (rfl | rfl | rfl | rfl | q)
    · omega
    · omega
    · omega
    · omega
    · exact rN.lt q
  · exact free1_w gB gA i10.gs i10.gm om rN (by have := nextL_len f a; omega)
  · refine fun t => AM.JK.stab ?_
    rintro S x y hB ⟨vn', q1, ⟨dl, q2, q3⟩, q4, q5, q6, q7⟩ hS hBl hn' hl'
    have lto2 : h.next + 1 < h10.next := by omega
    have ltv : ∀ id, idOf (.slice na st.2.length nc) id → id < h10.next := fun id q => o10.lt q
    refine ⟨vn', by rw [hBl _ (by omega)]; exact q1, ⟨dl, by rw [hBl _ lto2]; exact q2, q3⟩, q4.same (fun id q => ?_) hl', q5, q6, Fr.ext2 q7 hBl hn' hl'⟩
    rcases q5 id q with q | q
    · exact hS id q
    · exact hBl id (ltv id q)
  · intro y hy h11
    obtain ⟨q, _, rfl⟩ := List.mem_map.1 hy
    simp (maxSteps := 1000000) (disch := first | omega | (simp only [AM.DB, List.length_set, List.length_map]; first | done | omega)) only [AM.RB, Nat.reduceAdd, Nat.reduceMul, Nat.reduceEqDiff, reduceCtorEq, b20_RT4]
  · intro o
    have fr11 : Fr none' h10 (h10.alloc o) := (Fr.refl _ _).alloc _
    obtain ⟨dl, gd10, kd⟩ := i10.gd
    exact ⟨Nat.le_succ _, fun id e => by omega, none', ⟨_, g1210.fr0 fr11, ⟨dl, gd10.fr0 fr11, kd⟩, o10.fr0 fr11, fun id q => .inr q, fun id q => q.elim, fr11.weak⟩, fun id q => q.elim⟩
  · rintro t y A1 h11 hy ⟨hB, hA, S, ⟨vn', q1, ⟨dl, q2, q3⟩, q4, q5, q6, q7⟩, hS⟩ hA1 hL hlow hR
    rw [List.getElem?_map] at hy
    obtain ⟨b, hb, rfl⟩ := Option.map_eq_some_iff.1 hy
    obtain ⟨va, vc, rfl⟩ := q4.form
    have kb := q3 b
    have htl : t < (nbA L B cell a).length := (List.getElem?_eq_some_iff.1 hb).1
    have hbt : (nbA L B cell a).getD t 0 = b := by simp [List.getD, hb]
    have vs := visA_succ htl st
    rw [hbt] at vs
    have lt9 := AM.get_some_lt i6.g9
    have lts := AM.get_some_lt i6.gs
    have u9 := q7.get i10.g9 (fun q => by rcases q with q | q | q; omega; omega; have := new8 _ q; omega)
    have us := q7.get i10.gs (fun q => by rcases q with q | q | q; omega; omega; have := new8 _ q; omega)
    have u11 := q7.get i10.g11 (fun q => by rcases q with q | q | q; have := i6.c; omega; omega; have := new8 _ q; omega)
    have lw11 : h11.low ≤ h.next + 1 := by have := i10.fr.low; omega
    by_cases hk' : b ∈ (visA ((nbA L B cell a).take t) st).1
    · rw [decide_eq_true hk'] at kb
      have se : stepA (visA ((nbA L B cell a).take t) st) b = visA ((nbA L B cell a).take t) st := if_pos hk'
      rw [se] at vs
      (repeat' (first | (simp (maxSteps := 1000000) (disch := first | omega | (simp only [AM.DB, List.length_set, List.length_map]; first | done | omega)) only [AM.RB, Nat.reduceAdd, Nat.reduceMul, Nat.reduceEqDiff, reduceCtorEq, b20_RT4, u9, us, AM.lookup_enc2 mp_98 q2, kb]) | refine AM.drawW_loose (id := 13) hp (by kernel_rfl) (by kernel_rfl) ?_ | refine AM.drawW_fine (id := 17) hp (by kernel_rfl) (by kernel_rfl) (by kernel_rfl) ?_ | refine AM.opW_tied (by kernel_rfl) ?_ | refine AM.opW_untied (by kernel_rfl) ?_))
      refine ⟨Nat.le_refl _, fun _ _ _ => trivial, hB, hA, S, ⟨_, q1, ⟨dl, q2, by rw [vs]; exact q3⟩, by rw [vs]; exact q4, q5, q6, q7⟩, hS⟩
    · rw [decide_eq_false hk'] at kb
      have se : stepA (visA ((nbA L B cell a).take t) st) b = ((visA ((nbA L B cell a).take t) st).1 ++ [b], (visA ((nbA L B cell a).take t) st).2 ++ [b]) := if_neg hk'
      rw [se] at vs
      have ltq1 := AM.get_some_lt q1
      (repeat' (first | (simp (maxSteps := 1000000) (disch := first | omega | (simp only [AM.DB, List.length_set, List.length_map]; first | done | omega)) only [AM.RB, Nat.reduceAdd, Nat.reduceMul, Nat.reduceEqDiff, reduceCtorEq, b20_RT4, u9, us, u11, q1, AM.lookup_enc2 mp_98 q2, kb, AM.update_enc mp_98 q2 lw11]) | refine AM.drawW_loose (id := 13) hp (by kernel_rfl) (by kernel_rfl) ?_ | refine AM.drawW_fine (id := 17) hp (by kernel_rfl) (by kernel_rfl) (by kernel_rfl) ?_ | refine AM.opW_tied (by kernel_rfl) ?_ | refine AM.opW_untied (by kernel_rfl) ?_))
      generalize hE_ : AHeap.put h11 _ _ = h12; obtain ⟨g12, fr12, n12, l12⟩ := AM.put_get hE_ (by omega); clear hE_
      (repeat' (first | (simp (maxSteps := 1000000) (disch := first | omega | (simp only [AM.DB, List.length_set, List.length_map]; first | done | omega)) only [AM.RB, Nat.reduceAdd, Nat.reduceMul, Nat.reduceEqDiff, reduceCtorEq, b20_RT4]) | refine AM.drawW_loose (id := 13) hp (by kernel_rfl) (by kernel_rfl) ?_ | refine AM.drawW_fine (id := 17) hp (by kernel_rfl) (by kernel_rfl) (by kernel_rfl) ?_ | refine AM.opW_tied (by kernel_rfl) ?_ | refine AM.opW_untied (by kernel_rfl) ?_))
      have kv1 : ∀ id, idOf (.slice va (visA ((nbA L B cell a).take t) st).2.length vc) id → ¬ (id = h.next + 1) ∧ ¬ (id = h6.next) ∧ id < h11.next := fun id q => by
        have := q4.lt q
        rcases q5 id q with q | q
        · have := q6 id q; omega
        · have := new8 id q; omega
      have q412 := q4.fr fr12 (fun id q q2 => (kv1 id q).1 q2)
      have q112 := fr12.get q1 (show ¬ h6.next = h.next + 1 by omega)
      have low12 : h12.low ≤ h12.next := by have := i10.fr.low; omega
      generalize hE_ : AHeap.alloc h12 _ = h13; obtain ⟨g13, fr13, n13, l13⟩ := AM.new_get hE_; clear hE_
      have gdA : goodA (visA ((nbA L B cell a).take t) st) := visA_good (by rw [← hst]; exact rndA_good _ ⟨gd0.1, Nat.zero_le _⟩)
      have hRa : ∀ x ∈ (visA ((nbA L B cell a).take t) st).1, 0 ≤ x ∧ x < L.flatten.length := fun x hx => by
        rcases visA_mem.1.1 hx with hx | hx
        · rw [← hst] at hx
          rcases (rndA_mem _).1.1 hx with hx | ⟨c, hc, hx⟩
          · exact hK0r x hx
          · exact hNd c (hAd c (List.take_subset _ _ hc)) x hx
        · exact hNd a had x (List.take_subset _ _ hx)
      have lenA := nodup_len gdA.1 hRa
      have lenB := gdA.2
      simp only [n12] at g13
      refine AM.appends_w ap_22 ap_22 (q412.fr0 fr13) (AM.Rd.whole (n := 1) (c := [.int .i64 b]) g13 rfl) rfl (by omega) (AM.fits (by omega) (by omega)) (AM.fits' (by omega)) fun v14 h14 o14 fr14 hid14 => ?_
      have q114 := fr14.get (q112.fr0 fr13) (fun q => (kv1 _ q).2.1 rfl)
      obtain ⟨wa, wc, rfl⟩ := o14.form
      have lt14 := AM.get_some_lt q114
      have low14 : h14.low ≤ h6.next := by have := fr14.low; have := i10.fr.low; omega
      have q214 := fr14.get (g12.fr0 fr13) (fun q => (kv1 _ q).1 rfl)
      (repeat' (first | (simp (maxSteps := 1000000) (disch := first | omega | (simp only [AM.DB, List.length_set, List.length_map]; first | done | omega)) only [AM.RB, Nat.reduceAdd, Nat.reduceMul, Nat.reduceEqDiff, reduceCtorEq, b20_RT4, q114]) | refine AM.drawW_loose (id := 13) hp (by kernel_rfl) (by kernel_rfl) ?_ | refine AM.drawW_fine (id := 17) hp (by kernel_rfl) (by kernel_rfl) (by kernel_rfl) ?_ | refine AM.opW_tied (by kernel_rfl) ?_ | refine AM.opW_untied (by kernel_rfl) ?_))
      generalize hE_ : AHeap.put h14 _ _ = h15; obtain ⟨g15, fr15, n15, l15⟩ := AM.put_get hE_ (by omega); clear hE_
      (repeat' (first | (simp (maxSteps := 1000000) (disch := first | omega | (simp only [AM.DB, List.length_set, List.length_map]; first | done | omega)) only [AM.RB, Nat.reduceAdd, Nat.reduceMul, Nat.reduceEqDiff, reduceCtorEq, b20_RT4]) | refine AM.drawW_loose (id := 13) hp (by kernel_rfl) (by kernel_rfl) ?_ | refine AM.drawW_fine (id := 17) hp (by kernel_rfl) (by kernel_rfl) (by kernel_rfl) ?_ | refine AM.opW_tied (by kernel_rfl) ?_ | refine AM.opW_untied (by kernel_rfl) ?_))
      have n14 := fr14.next
      have s14 : ∀ id, idOf (.slice wa ((visA ((nbA L B cell a).take t) st).2.length + 1) wc) id → ¬ (id = h6.next) ∧ (idOf (.slice va (visA ((nbA L B cell a).take t) st).2.length vc) id ∨ h11.next ≤ id) := fun id q => by
        rcases hid14 id q with q | q
        · exact ⟨(kv1 id q).2.1, .inl q⟩
        · exact ⟨by omega, .inr (by omega)⟩
      have fr1115 : Fr (fun id => id = h.next + 1 ∨ id = h6.next ∨ idOf (.slice va (visA ((nbA L B cell a).take t) st).2.length vc) id) h11 h15 := (((fr12.mono fun id _ q => .inl q).trans fr13.weak).trans (fr14.mono fun id _ q => .inr (.inr q))).trans (fr15.mono fun id _ q => .inr (.inl q))
      have nx15 := fr1115.next
      have new12 := i10.c
      have ltn : ∀ id, idOf (.slice na st.2.length nc) id → h6.next + 1 ≤ id ∧ id < h8.next := fun id q => ⟨new8 id q, o8.lt q⟩
      have hAl : ∀ id, A1 id → h10.next ≤ id := hA
      have o15 := o14.fr fr15 (fun id q => (s14 id q).1)
      have eL2 : (visA ((nbA L B cell a).take (t + 1)) st).2 = (visA ((nbA L B cell a).take t) st).2 ++ [b] := by rw [vs]
      refine ⟨by omega, by rw [← l15]; exact fr1115.low, fun id hid q => fr1115.old id hid fun q2 => ?_, by omega, hA, fun id => S id ∨ (idOf (.slice wa ((visA ((nbA L B cell a).take t) st).2.length + 1) wc) id ∧ h11.next ≤ id), ⟨_, g15, ⟨_, fr15.get q214 (fun q => by omega), ?_⟩, ?_, fun id q => ?_, fun id q => ?_, q7.then fr1115 (fun id hlt q => ?_)⟩, fun id q => ?_⟩
      · have hS6 : S id → h10.next ≤ id := q6 id
        have hSA : S id → ¬ A1 id := fun q => (hS id q).2
        rcases q2 with q2 | q2 | q2
        · rcases q with q | q | q | q | q | q
          · have := hAl id q; omega
          · omega
          · omega
          · omega
          · omega
          · have := hidN id q; omega
        · rcases q with q | q | q | q | q | q
          · have := hAl id q; omega
          · omega
          · omega
          · omega
          · omega
          · have := hidN id q; omega
        · rcases q5 id q2 with q2 | q2
          · rcases q with q | q | q | q | q | q
            · exact hSA q2 q
            · have := hS6 q2; omega
            · have := hS6 q2; omega
            · have := hS6 q2; omega
            · have := hS6 q2; omega
            · have := hS6 q2; have := oN.lt q; omega
          · have := ltn id q2
            rcases q with q | q | q | q | q | q
            · have := hAl id q; omega
            · omega
            · omega
            · omega
            · omega
            · have := hidN id q; omega
      · rw [vs]; exact q3.set b _ hk'
      · rw [eL2]; simpa using o15
      · rcases s14 id q with ⟨_, t1 | t1⟩
        · rcases q5 id t1 with t1 | t1
          · exact .inl (.inl t1)
          · exact .inr t1
        · exact .inl (.inr ⟨q, t1⟩)
      · rcases q with q | q
        · exact q6 id q
        · have := q.2; omega
      · rcases q with q | q | q
        · exact .inl q
        · exact .inr (.inl q)
        · rcases q5 id q with q | q
          · have := q6 id q; omega
          · exact .inr (.inr q)
      · rcases q with q | q
        · have := hS id q; exact ⟨by omega, this.2⟩
        · have l1 := o15.lt q.1
          exact ⟨l1, fun e => by have := (hA1 id e).2; have := q.2; omega⟩
  · rintro A1 h11 ⟨hB, hA, S, ⟨vn', q1, ⟨dl, q2, q3⟩, q4, q5, q6, q7⟩, hS⟩ hA1 hn11 hl11
    rw [List.length_map, List.take_length] at q3 q4
    obtain ⟨va, vc, rfl⟩ := q4.form
    rw [← rs] at q1 q3 q4 q5
    have lenA0 : K0.length ≤ L.flatten.length := nodup_len gd0.1 hK0r
    have lenA1 : A.length ≤ K0.length := gd0.2
    have s8 : ∀ id, idOf (.slice na st.2.length nc) id → h6.next + 1 ≤ id := new8
    have nn : ∀ id, idOf (.slice va (rndA (nbA L B cell) (A.take (i + 1)) (K0, [])).2.length vc) id → h6.next + 1 ≤ id := fun id q => by
      rcases q5 id q with q | q
      · have := q6 id q; omega
      · exact s8 id q
    have ic := i10.c
    have ew : IntKind.i64.wrap ((i : Int) + 1) = i + 1 := AM.wrap_i64 (by omega) (by omega)
    (repeat' (first | (simp (maxSteps := 1000000) (disch := first | omega | (simp only [AM.DB, List.length_set, List.length_map]; first | done | omega)) only [AM.RB, Nat.reduceAdd, Nat.reduceMul, Nat.reduceEqDiff, reduceCtorEq, b20_RT4, ew]) | refine AM.drawW_loose (id := 13) hp (by kernel_rfl) (by kernel_rfl) ?_ | refine AM.drawW_fine (id := 17) hp (by kernel_rfl) (by kernel_rfl) (by kernel_rfl) ?_ | refine AM.opW_tied (by kernel_rfl) ?_ | refine AM.opW_untied (by kernel_rfl) ?_))
    refine ⟨(i + 1, _), by simp only; omega, ?_, by simp only; omega, fun id => (C8 id ∨ id = h9.next ∨ id = h9.next + 1) ∨ idOf (.slice va (rndA (nbA L B cell) (A.take (i + 1)) (K0, [])).2.length vc) id, ?_, .inl (.inl c12), fun id q => .inr q, q1, q4, nn, by omega⟩
    · simp (maxSteps := 1000000) (disch := first | omega | (simp only [AM.DB, List.length_set, List.length_map]; first | done | omega)) only [AM.RB, Nat.reduceAdd, Nat.reduceMul, Nat.reduceEqDiff, reduceCtorEq, b20_RT4]
      first | rfl | skip
    · have hd : ∃ dl, h11.get (h.next + 1) = some (.map (encM dl)) ∧ keysM dl (rndA (nbA L B cell) (A.take (i + 1)) (K0, [])).1 := ⟨dl, q2, q3⟩
      have lti8 : ∀ id, C8 id → id < h8.next := i8.m.2
      refine i10.step q7 ?_ ?_ ?_ ?_ (fun id q q2 => ?_) hd ?_ (fun id q => .inl q) (i10.fr.then q7 fun id hlt q => ?_)
      · rintro (q | q | q)
        · omega
        · omega
        · have := s8 _ q; omega
      · rintro (q | q | q)
        · omega
        · omega
        · have := s8 _ q; omega
      · rintro (q | q | q)
        · omega
        · omega
        · have := s8 _ q; omega
      · rintro (q | q | q)
        · omega
        · omega
        · have := s8 _ q; omega
      · have := lta id q
        have := i8.new id q
        rcases q2 with q2 | q2 | q2
        · omega
        · omega
        · have := s8 _ q2; omega
      · refine i10.m.frC q7 (fun id q => ?_) (fun id q => ?_)
        · rcases q with q | q | q
          · rw [q]; exact .inl (i8.cO.2.2.2.1)
          · rw [q]; exact .inl c12
          · exact .inl (cvn id q)
        · rcases q with q | q
          · exact .inl q
          · rcases q5 id q with q3 | q3
            · exact .inr ⟨q6 id q3, q4.lt q⟩
            · exact .inl (.inl (cvn id q3))
      · rcases q with q | q | q
        · omega
        · omega
        · have := s8 _ q; omega
  · exact fun _ _ _ q => q.elim
end Go.Proofs.YtgdcbjpookldoaaDoor

namespace Go.Proofs.YtgdcbjpookldoaaDoor
open Go.AM
set_option maxRecDepth 8000
theorem b21_RT6 : type_of% (And.intro (@AM.bin_add) (And.intro (@AM.bin_eql) (And.intro (@AM.bin_gtr) (And.intro (@AM.bin_leq) (And.intro (@AM.bin_lss) (And.intro (@AM.bin_neq) (And.intro (AM.bsW_int bs_22) (And.intro (AM.bsW_nil bs_22) (And.intro (AM.bsW_slice bs_22) (And.intro (AM.bsW_string bs_22) (And.intro (@AM.iaO_ok) (And.intro (AM.ia_slice el_22) (And.intro (@AM.ldO_agg) (And.intro (@AM.ldO_one) (And.intro (@AM.ld_ptr) (And.intro (AM.len_slice ul_22) (And.intro (@lk_3) (And.intro (AM.mkW_int mk_22) (And.intro (@AM.op_append) (And.intro (@AM.op_binOp) (And.intro (@AM.op_buildSlice) (And.intro (@AM.op_call) (And.intro (@AM.op_indexAddr) (And.intro (@AM.op_len) (And.intro (@AM.op_load) (And.intro (@AM.op_makeSlice) (And.intro (@AM.op_store) (And.intro (@AM.op_unOp) (And.intro (@AM.stO_agg) (And.intro (@AM.stO_bool) (And.intro (@AM.stO_int) (And.intro (@AM.stO_map) (And.intro (@AM.stO_pointer) (And.intro (@AM.stO_slice) (And.intro (@AM.stO_string) (And.intro (@AM.st_ptr) (And.intro (@sz_3) (And.intro (@AM.un_neg) (@AM.un_not))))))))))))))))))))))))))))))))))))))) := And.intro (@AM.bin_add) (And.intro (@AM.bin_eql) (And.intro (@AM.bin_gtr) (And.intro (@AM.bin_leq) (And.intro (@AM.bin_lss) (And.intro (@AM.bin_neq) (And.intro (AM.bsW_int bs_22) (And.intro (AM.bsW_nil bs_22) (And.intro (AM.bsW_slice bs_22) (And.intro (AM.bsW_string bs_22) (And.intro (@AM.iaO_ok) (And.intro (AM.ia_slice el_22) (And.intro (@AM.ldO_agg) (And.intro (@AM.ldO_one) (And.intro (@AM.ld_ptr) (And.intro (AM.len_slice ul_22) (And.intro (@lk_3) (And.intro (AM.mkW_int mk_22) (And.intro (@AM.op_append) (And.intro (@AM.op_binOp) (And.intro (@AM.op_buildSlice) (And.intro (@AM.op_call) (And.intro (@AM.op_indexAddr) (And.intro (@AM.op_len) (And.intro (@AM.op_load) (And.intro (@AM.op_makeSlice) (And.intro (@AM.op_store) (And.intro (@AM.op_unOp) (And.intro (@AM.stO_agg) (And.intro (@AM.stO_bool) (And.intro (@AM.stO_int) (And.intro (@AM.stO_map) (And.intro (@AM.stO_pointer) (And.intro (@AM.stO_slice) (And.intro (@AM.stO_string) (And.intro (@AM.st_ptr) (And.intro (@sz_3) (And.intro (@AM.un_neg) (@AM.un_not))))))))))))))))))))))))))))))))))))))


theorem nil_rep (n : Nat) : AM.repeated [Value.int .i64 0] n = (List.replicate n (0 : Int)).map (.int .i64) := by
  rw [AM.repeated_one, List.map_replicate]
/-- Cells that have a number, in order. -/
def posL (out : List Int) (k : Nat) : List Int := ((List.range k).map Int.ofNat).filter fun c => decide (0 < out.getD c.toNat 0)
theorem posL_succ (out : List Int) (k : Nat) : posL out (k + 1) = posL out k ++ if 0 < out.getD k 0 then [(k : Int)] else [] := by
  unfold posL
  rw [List.range_succ, List.map_append, List.filter_append]
  congr 1
  by_cases h : 0 < out.getD k 0
  · rw [if_pos h]; exact List.filter_cons_of_pos (by show decide (0 < out.getD (Int.toNat (k : Int)) 0) = true; rw [Int.toNat_natCast]; exact decide_eq_true h)
  · rw [if_neg h]; exact List.filter_cons_of_neg (by show ¬ decide (0 < out.getD (Int.toNat (k : Int)) 0) = true; rw [Int.toNat_natCast]; simpa using h)
theorem posL_len (out : List Int) (k : Nat) : (posL out k).length ≤ k := by
  unfold posL
  refine Nat.le_trans (List.length_filter_le _ _) (by simp)
theorem posL_mem {out : List Int} {k : Nat} {x : Int} : x ∈ posL out k ↔ (0 ≤ x ∧ x < k) ∧ 0 < out.getD x.toNat 0 := by
  unfold posL
  rw [List.mem_filter, decide_eq_true_iff]
  constructor
  · rintro ⟨h, g⟩
    obtain ⟨m, hm, rfl⟩ := List.mem_map.1 h
    rw [List.mem_range] at hm
    exact ⟨⟨Int.natCast_nonneg m, by simpa using hm⟩, g⟩
  · rintro ⟨h, g⟩
    refine ⟨List.mem_map.2 ⟨x.toNat, List.mem_range.2 (by omega), ?_⟩, g⟩
    show ((x.toNat : Nat) : Int) = x
    omega
theorem posL_srt (out : List Int) : ∀ k, (posL out k).Pairwise (fun a b => a < b)
  | 0 => List.Pairwise.nil
  | k + 1 => by
    rw [posL_succ]
    refine List.pairwise_append.2 ⟨posL_srt out k, ?_, fun a ha b hb => ?_⟩
    · split
      · exact List.pairwise_singleton _ _
      · exact List.Pairwise.nil
    · have h1 := (posL_mem.1 ha).1
      split at hb
      · rw [List.mem_singleton.1 hb]; omega
      · cases hb

set_option maxHeartbeats 8000000 in
theorem refAround_w {h : AHeap} {p : Nat} {lv : Value} {L : List (List UInt8)} {l : List UInt8} (r : Rp h p lv L) (G : Good l L) (hl : h.low ≤ h.next) (cell far : Int) {s : Value} {n : Nat} {B : List Int} (hs : Rd h 3 1 s n (B.map (.int .i64))) (hn : n ≤ 4000000) {Q : VQ}
    (hno : freeP L.flatten cell = false ∨ far < 0 → Q (.slice none 0 0) h)
    (hok : freeP L.flatten cell = true → 0 ≤ far → ∀ v (l : List Int) h', Ow h' 3 1 v l.length (l.map (.int .i64)) → l.Pairwise (fun a b => a < b) → (∀ x, x ∈ l ↔ (0 ≤ x ∧ x < L.flatten.length) ∧ ∃ j : Nat, (j : Int) ≤ far ∧ Wk (nbA L B cell) cell j x) → Fr none' h h' → Q v h') : W 21 [pv p, .int .i64 cell, s, .int .i64 far] h Q := by
  obtain ⟨sa, sc, rfl⟩ := hs.form
  have hK := G.fit.k1024
  have hbd : L.length ≤ 4000000 ∧ (L.getD 0 []).length ≤ 4000000 := by have := G.r32; have := G.c32; omega
  have glen := G.len
  refine AM.enter hp (fn := Tryd.f21) (rs := [.tmp 8]) (nt := 103) (by kernel_rfl) Tryd.func21 rfl rfl rfl (by kernel_rfl) ?_
  (first | (simp (maxSteps := 1000000) (disch := first | omega | (simp only [AM.DB, List.length_set, List.length_map]; first | done | omega)) only [AM.RB, Nat.reduceAdd, Nat.reduceMul, Nat.reduceEqDiff, reduceCtorEq, b21_RT6]) | skip)
  refine refFree_w r G.rows hbd G.all cell ?_
  rw [G.free]
  cases hf : freeP L.flatten cell with
  | false =>
    (first | (simp (maxSteps := 1000000) (disch := first | omega | (simp only [AM.DB, List.length_set, List.length_map]; first | done | omega)) only [AM.RB, Nat.reduceAdd, Nat.reduceMul, Nat.reduceEqDiff, reduceCtorEq, b21_RT6]) | skip)
    exact hno (.inl hf)
  | true =>
  by_cases hfar : far < 0
  · (first | (simp (maxSteps := 1000000) (disch := first | omega | (simp only [AM.DB, List.length_set, List.length_map]; first | done | omega)) only [AM.RB, Nat.reduceAdd, Nat.reduceMul, Nat.reduceEqDiff, reduceCtorEq, b21_RT6, decide_eq_true hfar]) | skip)
    exact hno (.inr hfar)
  (first | (simp (maxSteps := 1000000) (disch := first | omega | (simp only [AM.DB, List.length_set, List.length_map]; first | done | omega)) only [AM.RB, Nat.reduceAdd, Nat.reduceMul, Nat.reduceEqDiff, reduceCtorEq, b21_RT6, decide_eq_false hfar]) | skip)
  refine refCells_w r G.rows hbd ?_
  rw [← glen]
  have hr : 0 ≤ cell ∧ cell < L.flatten.length := freeP_in hf
  have hNd := nbA_in G.fit B cell
  obtain ⟨k, rfl⟩ := Int.eq_ofNat_of_zero_le hr.1
  have hin : ∀ b c : Int, c ∈ nextL L b → 0 ≤ c ∧ c < L.flatten.length := fun b c hc => nextL_in G.fit hc
  have hnl : ∀ b : Int, (nextL L b).length ≤ 1024 := nextL_len G.fit
  generalize hN : L.flatten.length = N at *
  have hkN : k < N := by omega
  (first | (simp (maxSteps := 1000000) (disch := first | omega | (simp only [AM.DB, List.length_set, List.length_map]; first | done | omega)) only [AM.RB, Nat.reduceAdd, Nat.reduceMul, Nat.reduceEqDiff, reduceCtorEq, b21_RT6]) | skip)
  generalize hE_ : AHeap.alloc h _ = h1; obtain ⟨g1, fr1, n1, l1⟩ := AM.new_get hE_; clear hE_
  rw [nil_rep] at g1
  have o1 : Ow h1 3 1 (slT h.next N) N ((List.replicate N (0 : Int)).map (.int .i64)) := AM.Ow.whole g1 (by simp) (by omega)
  have own : ∀ id, idOf (slT h.next N) id → id = h.next := fun id t => t
  have rl : (AM.repeated [Value.int .i64 0] N).length = N := by rw [nil_rep]; simp
  have lt1 : h1.low ≤ h.next := by omega
  (first | (simp (maxSteps := 1000000) (disch := first | omega | (simp only [AM.DB, List.length_set, List.length_map]; first | done | omega)) only [AM.RB, Nat.reduceAdd, Nat.reduceMul, Nat.reduceEqDiff, reduceCtorEq, b21_RT6, rl]) | skip)
  generalize hE_ : AHeap.put h1 _ _ = h2; obtain ⟨g2, fr2, n2, l2⟩ := AM.put_get hE_ (by omega); clear hE_
  rw [nil_rep, ← List.map_set] at g2
  have o2 : Ow h2 3 1 (slT h.next N) N (((List.replicate N (0 : Int)).set k 1).map (.int .i64)) := AM.Ow.whole g2 (by simp) (by omega)
  have lv0 := LQ.init (n := N) (N := nbA L B k) (s := 1) hr
  rw [Int.toNat_natCast, show (1 : Int) - 1 = 0 from rfl] at lv0
  have fr02 := fr1.fresh fr2 (fun id t => by have := own id t; omega)
  (first | (simp (maxSteps := 1000000) (disch := first | omega | (simp only [AM.DB, List.length_set, List.length_map]; first | done | omega)) only [AM.RB, Nat.reduceAdd, Nat.reduceMul, Nat.reduceEqDiff, reduceCtorEq, b21_RT6]) | skip)
  refine AM.loop_w hp 103 (fun z : Nat × List Int => [(0, pv p), (1, .int .i64 k), (2, .slice sa n sc), (3, .int .i64 far), (9, .int .i64 N), (10, slT h.next N), (11, .int .i64 (z.1 + 1))])
    (fun z h' => z.1 ≤ N ∧ (z.1 : Int) ≤ far ∧ LQ N (nbA L B k) k 1 z.1 z.2 ∧ Ow h' 3 1 (slT h.next N) N (z.2.map (.int .i64)) ∧ Fr none' h h') (fun z => N - z.1) (by kernel_rfl) (0, (List.replicate N 0).set k 1) ?_ ?_ ?_
  · simp (maxSteps := 1000000) (disch := first | omega | (simp only [AM.DB, List.length_set, List.length_map]; first | done | omega)) only [AM.RB, Nat.reduceAdd, Nat.reduceMul, Nat.reduceEqDiff, reduceCtorEq, b21_RT6]
    first | rfl | skip
  · exact ⟨Nat.zero_le _, by simp only; omega, lv0, o2, fr02⟩
  rintro ⟨fa, out⟩ h3 ρ3 ⟨hf3, hfa, lv, o3, fr3⟩
  simp only at hf3 hfa lv o3 ⊢
  have hl3 := fr3.hl hl
  (first | (simp (maxSteps := 1000000) (disch := first | omega | (simp only [AM.DB, List.length_set, List.length_map]; first | done | omega)) only [AM.RB, Nat.reduceAdd, Nat.reduceMul, Nat.reduceEqDiff, reduceCtorEq, b21_RT6]) | skip)
  have alt : (decide ((fa : Int) + 1 ≤ far) = true ∧ decide ((fa : Int) + 1 ≤ N) = true) ∨ (((decide ((fa : Int) + 1 ≤ far) = false) ∨ (decide ((fa : Int) + 1 ≤ far) = true ∧ decide ((fa : Int) + 1 ≤ N) = false)) ∧ (fa = far.toNat ∨ (fa ≤ far.toNat ∧ N ≤ fa))) := by
    by_cases c1 : (fa : Int) + 1 ≤ far
    · by_cases c2 : (fa : Int) + 1 ≤ N
      · exact .inl ⟨decide_eq_true c1, decide_eq_true c2⟩
      · exact .inr ⟨.inr ⟨decide_eq_true c1, decide_eq_false c2⟩, .inr (by omega)⟩
    · exact .inr ⟨.inl (decide_eq_false c1), .inl (by omega)⟩
  rcases alt with ⟨c1, c2⟩ | ⟨c, fin⟩
  case' inr =>
    rcases c with c1 | ⟨c1, c2⟩
  case' inr.inl => (first | (simp (maxSteps := 1000000) (disch := first | omega | (simp only [AM.DB, List.length_set, List.length_map]; first | done | omega)) only [AM.RB, Nat.reduceAdd, Nat.reduceMul, Nat.reduceEqDiff, reduceCtorEq, b21_RT6, c1]) | skip)
  case' inr.inr => (first | (simp (maxSteps := 1000000) (disch := first | omega | (simp only [AM.DB, List.length_set, List.length_map]; first | done | omega)) only [AM.RB, Nat.reduceAdd, Nat.reduceMul, Nat.reduceEqDiff, reduceCtorEq, b21_RT6, c1, c2]) | skip)
  case' inr.inl | inr.inr =>
    refine AM.loop_w hp 103 (fun z : Nat × Value => [(9, .int .i64 N), (10, slT h.next N), (15, z.2), (16, .int .i64 z.1)])
      (fun z h' => z.1 ≤ N ∧ Ow h' 3 1 z.2 (posL out z.1).length ((posL out z.1).map (.int .i64)) ∧ Fr none' h3 h' ∧ ∀ id, idOf z.2 id → h3.next ≤ id) (fun z => N - z.1) (by kernel_rfl) (0, .slice none 0 0) ?_ ?_ ?_
    · simp (maxSteps := 1000000) (disch := first | omega | (simp only [AM.DB, List.length_set, List.length_map]; first | done | omega)) only [AM.RB, Nat.reduceAdd, Nat.reduceMul, Nat.reduceEqDiff, reduceCtorEq, b21_RT6]
      first | rfl | skip
    · exact ⟨Nat.zero_le _, Ow.nil _ _ _, Fr.refl _ _, fun _ t => t.elim⟩
    rintro ⟨i, v⟩ h4 ρ4 ⟨hi, o4, fr4, hid4⟩
    simp only at hi o4 hid4
    obtain ⟨va, vc, rfl⟩ := o4.form
    have hl4 := fr4.hl hl3
    have r3 := (o3.fr0 fr4).rd
    have rs := posL_succ out i
    have rl := posL_len out i
    (first | (simp (maxSteps := 1000000) (disch := first | omega | (simp only [AM.DB, List.length_set, List.length_map]; first | done | omega)) only [AM.RB, Nat.reduceAdd, Nat.reduceMul, Nat.reduceEqDiff, reduceCtorEq, b21_RT6]) | skip)
    refine AM.condV_split (fun hlt => ?_) (fun hlt => ?_)
    · have hiN : i < N := by omega
      by_cases hc : 0 < out.getD i 0
      · rw [if_pos hc] at rs
        (first | (simp (maxSteps := 1000000) (disch := first | omega | (simp only [AM.DB, List.length_set, List.length_map]; first | done | omega)) only [AM.RB, Nat.reduceAdd, Nat.reduceMul, Nat.reduceEqDiff, reduceCtorEq, b21_RT6, r3.ia el_22, Rd.ldi r3 lk_3, Int.toNat_natCast, decide_eq_true hc]) | skip)
        generalize hE_ : AHeap.alloc h4 _ = h5; obtain ⟨g5, fr5, n5, l5⟩ := AM.new_get hE_; clear hE_
        refine AM.appends_w ap_22 ap_22 (o4.fr0 fr5) (AM.Rd.whole (n := 1) (c := [.int .i64 (i : Int)]) g5 rfl) rfl (by omega) (AM.fits (by omega) (by omega)) (AM.fits' (by omega)) fun v6 h6 o6 fr6 hid6 => ?_
        have n4 := fr4.next
        (first | (simp (maxSteps := 1000000) (disch := first | omega | (simp only [AM.DB, List.length_set, List.length_map]; first | done | omega)) only [AM.RB, Nat.reduceAdd, Nat.reduceMul, Nat.reduceEqDiff, reduceCtorEq, b21_RT6, AM.wrap_i64]) | skip)
        refine ⟨(i + 1, v6), by simp only; omega, ?_, by simp only; omega, ?_, (fr4.trans fr5).fresh fr6 (fun id t => hid4 id t), fun id t => (hid6 id t).elim (hid4 id) (fun t => by omega)⟩
        · simp (maxSteps := 1000000) (disch := first | omega | (simp only [AM.DB, List.length_set, List.length_map]; first | done | omega)) only [AM.RB, Nat.reduceAdd, Nat.reduceMul, Nat.reduceEqDiff, reduceCtorEq, b21_RT6]
          first | rfl | skip
        · simp only
          rw [rs]
          simpa using o6
      · rw [if_neg hc, List.append_nil] at rs
        (first | (simp (maxSteps := 1000000) (disch := first | omega | (simp only [AM.DB, List.length_set, List.length_map]; first | done | omega)) only [AM.RB, Nat.reduceAdd, Nat.reduceMul, Nat.reduceEqDiff, reduceCtorEq, b21_RT6, r3.ia el_22, Rd.ldi r3 lk_3, Int.toNat_natCast, decide_eq_false hc, AM.wrap_i64]) | skip)
        refine ⟨(i + 1, _), by simp only; omega, ?_, by simp only; omega, ?_, fr4, hid4⟩
        · simp (maxSteps := 1000000) (disch := first | omega | (simp only [AM.DB, List.length_set, List.length_map]; first | done | omega)) only [AM.RB, Nat.reduceAdd, Nat.reduceMul, Nat.reduceEqDiff, reduceCtorEq, b21_RT6]
          first | rfl | skip
        · simp only
          rw [rs]; exact o4
    · obtain rfl : i = N := by omega
      (first | (simp (maxSteps := 1000000) (disch := first | omega | (simp only [AM.DB, List.length_set, List.length_map]; first | done | omega)) only [AM.RB, Nat.reduceAdd, Nat.reduceMul, Nat.reduceEqDiff, reduceCtorEq, b21_RT6]) | skip)
      refine hok hf (by omega) _ _ _ o4 (posL_srt _ _) (fun x => ?_) (fr3.trans fr4)
      rw [posL_mem]
      constructor
      · rintro ⟨hx, q⟩
        refine ⟨hx, ?_⟩
        have := (lv.mem (y := x.toNat) (by omega)).1 (by omega)
        rw [show ((x.toNat : Nat) : Int) = x by omega] at this
        obtain ⟨j, hj, w⟩ := (wk_cut hNd hr fin).2 this
        exact ⟨j, by omega, w⟩
      · rintro ⟨hx, j, hj, w⟩
        refine ⟨hx, ?_⟩
        have := (wk_cut hNd hr fin).1 ⟨j, by omega, w⟩
        rw [← show ((x.toNat : Nat) : Int) = x by omega] at this
        have := (lv.mem (y := x.toNat) (by omega)).2 this
        omega
  have hfN : fa < N := by have := of_decide_eq_true c2; omega
  (first | (simp (maxSteps := 1000000) (disch := first | omega | (simp only [AM.DB, List.length_set, List.length_map]; first | done | omega)) only [AM.RB, Nat.reduceAdd, Nat.reduceMul, Nat.reduceEqDiff, reduceCtorEq, b21_RT6, c1, c2]) | skip)
  refine AM.loop_w hp 103 (fun z : Nat × List Int => [(0, pv p), (1, .int .i64 k), (2, .slice sa n sc), (3, .int .i64 far), (9, .int .i64 N), (10, slT h.next N), (11, .int .i64 (fa + 1)), (12, .int .i64 z.1)])
    (fun z h' => z.1 ≤ N ∧ (∃ more, LQB N (nbA L B k) k 1 fa z.2 z.1 [] more) ∧ Ow h' 3 1 (slT h.next N) N (z.2.map (.int .i64)) ∧ Fr none' h h') (fun z => N - z.1) (by kernel_rfl) (0, out) ?_ ?_ ?_
  · simp (maxSteps := 1000000) (disch := first | omega | (simp only [AM.DB, List.length_set, List.length_map]; first | done | omega)) only [AM.RB, Nat.reduceAdd, Nat.reduceMul, Nat.reduceEqDiff, reduceCtorEq, b21_RT6]
    first | rfl | skip
  · exact ⟨Nat.zero_le _, ⟨_, lv.start⟩, o3, fr3⟩
  rintro ⟨b, out2⟩ h4 ρ4 ⟨hb, ⟨more, lb⟩, o4, fr4⟩
  simp only at hb lb o4 ⊢
  have hl4 := fr4.hl hl
  (first | (simp (maxSteps := 1000000) (disch := first | omega | (simp only [AM.DB, List.length_set, List.length_map]; first | done | omega)) only [AM.RB, Nat.reduceAdd, Nat.reduceMul, Nat.reduceEqDiff, reduceCtorEq, b21_RT6]) | skip)
  refine AM.condV_split (fun hbt => ?_) (fun hbt => ?_)
  case' refine_2 =>
    obtain rfl : b = N := by omega
    obtain ⟨nx, _⟩ := lb.next hNd hr
    have := of_decide_eq_true c1
    (first | (simp (maxSteps := 1000000) (disch := first | omega | (simp only [AM.DB, List.length_set, List.length_map]; first | done | omega)) only [AM.RB, Nat.reduceAdd, Nat.reduceMul, Nat.reduceEqDiff, reduceCtorEq, b21_RT6, AM.wrap_i64]) | skip)
    refine ⟨(fa + 1, out2), by simp only; omega, ?_, by simp only; omega, by simp only; omega, nx, o4, fr4⟩
    simp (maxSteps := 1000000) (disch := first | omega | (simp only [AM.DB, List.length_set, List.length_map]; first | done | omega)) only [AM.RB, Nat.reduceAdd, Nat.reduceMul, Nat.reduceEqDiff, reduceCtorEq, b21_RT6]
    first | rfl | skip
  have hbN : b < N := by omega
  have r4 := o4.rd
  by_cases hbf : out2.getD b 0 = fa + 1
  case neg =>
    have d2 : decide (out2.getD b 0 = (fa : Int) + 1) = false := decide_eq_false hbf
    (first | (simp (maxSteps := 1000000) (disch := first | omega | (simp only [AM.DB, List.length_set, List.length_map]; first | done | omega)) only [AM.RB, Nat.reduceAdd, Nat.reduceMul, Nat.reduceEqDiff, reduceCtorEq, b21_RT6, r4.ia el_22, Rd.ldi r4 lk_3, Int.toNat_natCast, d2, AM.wrap_i64]) | skip)
    refine ⟨(b + 1, out2), by simp only; omega, ?_, by simp only; omega, ⟨_, lb.skip hbf⟩, o4, fr4⟩
    simp (maxSteps := 1000000) (disch := first | omega | (simp only [AM.DB, List.length_set, List.length_map]; first | done | omega)) only [AM.RB, Nat.reduceAdd, Nat.reduceMul, Nat.reduceEqDiff, reduceCtorEq, b21_RT6]
    first | rfl | skip
  have d2 : decide (out2.getD b 0 = (fa : Int) + 1) = true := decide_eq_true hbf
  (first | (simp (maxSteps := 1000000) (disch := first | omega | (simp only [AM.DB, List.length_set, List.length_map]; first | done | omega)) only [AM.RB, Nat.reduceAdd, Nat.reduceMul, Nat.reduceEqDiff, reduceCtorEq, b21_RT6, r4.ia el_22, Rd.ldi r4 lk_3, Int.toNat_natCast, d2]) | skip)
  refine refNext_w (r.fr0 fr4) G hl4 b fun v5 h5 o5 fr5 hid5 => ?_
  obtain ⟨va, vc, rfl⟩ := o5.form
  have hb1024 := hnl b
  have hinb := hin b
  have hNb : ∀ i, i < (nextL L b).length → (nextL L b).getD i 0 ∈ nextL L b := fun i hi => by
    have e : (nextL L b).getD i 0 = (nextL L b)[i] := by simp [List.getD, hi]
    rw [e]; exact List.getElem_mem hi
  have hkept : ∀ c, c ∈ nbA L B k b ↔ c ∈ nextL L b ∧ outB B k c = false := fun c => by
    show c ∈ keptL B k (nextL L b) ↔ _
    unfold keptL; rw [List.mem_filter]; simp
  have hks := fun i (hi : i < (nextL L b).length) => keptL_succ B k hi
  have hkall : keptL B k ((nextL L b).take (nextL L b).length) = nbA L B k b := by rw [List.take_length]
  have hksub : ∀ i, ∀ y ∈ keptL B k ((nextL L b).take i), y ∈ nbA L B k b := fun i y hy => by
    rw [hkept]
    unfold keptL at hy
    rw [List.mem_filter] at hy
    exact ⟨List.take_subset _ _ hy.1, by simpa using hy.2⟩
  generalize nextL L b = X at *
  have hlo5 := fr5.low
  (first | (simp (maxSteps := 1000000) (disch := first | omega | (simp only [AM.DB, List.length_set, List.length_map]; first | done | omega)) only [AM.RB, Nat.reduceAdd, Nat.reduceMul, Nat.reduceEqDiff, reduceCtorEq, b21_RT6]) | skip)
  refine AM.loop_w hp 103 (fun z : Nat × List Int => [(0, pv p), (1, .int .i64 k), (2, .slice sa n sc), (3, .int .i64 far), (9, .int .i64 N), (10, slT h.next N), (11, .int .i64 (fa + 1)), (12, .int .i64 b), (13, .slice va X.length vc), (14, .int .i64 z.1)])
    (fun z h' => z.1 ≤ X.length ∧ (∃ more, LQB N (nbA L B k) k 1 fa z.2 b (keptL B k (X.take z.1)) more) ∧ z.2.getD b 0 = fa + 1 ∧ Ow h' 3 1 (slT h.next N) N (z.2.map (.int .i64)) ∧ Fr (fun id => id = h.next) h5 h') (fun z => X.length - z.1) (by kernel_rfl) (0, out2) ?_ ?_ ?_
  · simp (maxSteps := 1000000) (disch := first | omega | (simp only [AM.DB, List.length_set, List.length_map]; first | done | omega)) only [AM.RB, Nat.reduceAdd, Nat.reduceMul, Nat.reduceEqDiff, reduceCtorEq, b21_RT6]
    first | rfl | skip
  · exact ⟨Nat.zero_le _, ⟨_, lb⟩, hbf, o4.fr0 fr5, Fr.refl _ _⟩
  rintro ⟨i, out3⟩ h6 ρ6 ⟨hi, ⟨more6, lb6⟩, hf6, o6, fr6⟩
  simp only at hi lb6 hf6 o6 ⊢
  have n04 := fr4.next
  have fr06 : Fr none' h h6 := (fr4.trans fr5).fresh fr6 (fun id t => by have t : id = h.next := t; omega)
  have hl6 := fr06.hl hl
  (first | (simp (maxSteps := 1000000) (disch := first | omega | (simp only [AM.DB, List.length_set, List.length_map]; first | done | omega)) only [AM.RB, Nat.reduceAdd, Nat.reduceMul, Nat.reduceEqDiff, reduceCtorEq, b21_RT6]) | skip)
  refine AM.condV_split (fun hit => ?_) (fun hit => ?_)
  case' refine_2 =>
    obtain rfl : i = X.length := by omega
    (first | (simp (maxSteps := 1000000) (disch := first | omega | (simp only [AM.DB, List.length_set, List.length_map]; first | done | omega)) only [AM.RB, Nat.reduceAdd, Nat.reduceMul, Nat.reduceEqDiff, reduceCtorEq, b21_RT6, AM.wrap_i64]) | skip)
    refine ⟨(b + 1, out3), by simp only; omega, ?_, by simp only; omega, ⟨_, lb6.row (by rw [hkall]; exact fun _ q => q)⟩, o6, fr06⟩
    simp (maxSteps := 1000000) (disch := first | omega | (simp only [AM.DB, List.length_set, List.length_map]; first | done | omega)) only [AM.RB, Nat.reduceAdd, Nat.reduceMul, Nat.reduceEqDiff, reduceCtorEq, b21_RT6]
    first | rfl | skip
  have hiX : i < X.length := by omega
  have ks := hks i hiX
  obtain ⟨c, hc⟩ : ∃ c, X.getD i 0 = c := ⟨_, rfl⟩
  have hcX := hNb i hiX
  rw [hc] at ks hcX
  have hc0 := hinb c hcX
  have r5 := (o5.fr fr6 (fun id q t => by have := hid5 id q; have t : id = h.next := t; have := o4.lt (id := h.next) rfl; omega)).rd
  have r6 := o6.rd
  by_cases hz : out3.getD c.toNat 0 = 0
  case neg =>
    have d3 : decide (out3.getD c.toNat 0 = 0) = false := decide_eq_false hz
    have up : 1 ≤ out3.getD c.toNat 0 := by
      by_cases t : 1 ≤ out3.getD c.toNat 0
      · exact t
      · have := lb6.no c.toNat (by omega) (by omega); omega
    (first | (simp (maxSteps := 1000000) (disch := first | omega | (simp only [AM.DB, List.length_set, List.length_map]; first | done | omega)) only [AM.RB, Nat.reduceAdd, Nat.reduceMul, Nat.reduceEqDiff, reduceCtorEq, b21_RT6, r5.ia el_22, Rd.ldi r5 lk_3, r6.ia el_22, Rd.ldi r6 lk_3, Int.toNat_natCast, hc, d3, AM.wrap_i64]) | skip)
    refine ⟨(i + 1, out3), by simp only; omega, ?_, by simp only; omega, ⟨more6, ?_⟩, hf6, o6, fr6⟩
    · simp (maxSteps := 1000000) (disch := first | omega | (simp only [AM.DB, List.length_set, List.length_map]; first | done | omega)) only [AM.RB, Nat.reduceAdd, Nat.reduceMul, Nat.reduceEqDiff, reduceCtorEq, b21_RT6]
      first | rfl | skip
    · simp only
      rw [ks]
      split
      · rw [List.append_nil]; exact lb6
      · exact lb6.pass up
  have d3 : decide (out3.getD c.toNat 0 = 0) = true := decide_eq_true hz
  (first | (simp (maxSteps := 1000000) (disch := first | omega | (simp only [AM.DB, List.length_set, List.length_map]; first | done | omega)) only [AM.RB, Nat.reduceAdd, Nat.reduceMul, Nat.reduceEqDiff, reduceCtorEq, b21_RT6, r5.ia el_22, Rd.ldi r5 lk_3, r6.ia el_22, Rd.ldi r6 lk_3, Int.toNat_natCast, hc, d3]) | skip)
  refine refOut_w (hs.fr0 fr06) hn c k ?_
  cases hoc : outB B k c with
  | true =>
    rw [if_pos hoc, List.append_nil] at ks
    (first | (simp (maxSteps := 1000000) (disch := first | omega | (simp only [AM.DB, List.length_set, List.length_map]; first | done | omega)) only [AM.RB, Nat.reduceAdd, Nat.reduceMul, Nat.reduceEqDiff, reduceCtorEq, b21_RT6, AM.wrap_i64]) | skip)
    refine ⟨(i + 1, out3), by simp only; omega, ?_, by simp only; omega, ⟨more6, by simp only; rw [ks]; exact lb6⟩, hf6, o6, fr6⟩
    simp (maxSteps := 1000000) (disch := first | omega | (simp only [AM.DB, List.length_set, List.length_map]; first | done | omega)) only [AM.RB, Nat.reduceAdd, Nat.reduceMul, Nat.reduceEqDiff, reduceCtorEq, b21_RT6]
    first | rfl | skip
  | false =>
    rw [if_neg (by rw [hoc]; simp)] at ks
    have st := lb6.set hNd (hksub i) hbN hf6 (c := c) (by omega) ((hkept c).2 ⟨hcX, hoc⟩)
    have hf7 : (out3.set c.toNat ((fa : Int) + 1 + 1)).getD b 0 = fa + 1 := by
      rw [getD_set _ _ _ _ (by rw [lb6.len]; exact hbN)]
      split
      · rename_i t; rw [t, hf6] at hz; omega
      · exact hf6
    (first | (simp (maxSteps := 1000000) (disch := first | omega | (simp only [AM.DB, List.length_set, List.length_map]; first | done | omega)) only [AM.RB, Nat.reduceAdd, Nat.reduceMul, Nat.reduceEqDiff, reduceCtorEq, b21_RT6, r5.ia el_22, Rd.ldi r5 lk_3, o6.ia el_22, Int.toNat_natCast, hc, AM.wrap_i64]) | skip)
    refine o6.st sz_3 (j := c.toNat) (by omega) rfl rfl fun h7 o7 fr7 n7 => ?_
    rw [← List.map_set] at o7
    (first | (simp (maxSteps := 1000000) (disch := first | omega | (simp only [AM.DB, List.length_set, List.length_map]; first | done | omega)) only [AM.RB, Nat.reduceAdd, Nat.reduceMul, Nat.reduceEqDiff, reduceCtorEq, b21_RT6, AM.wrap_i64]) | skip)
    refine ⟨(i + 1, out3.set c.toNat ((fa : Int) + 1 + 1)), by simp only; omega, ?_, by simp only; omega, ⟨true, by simp only; rw [ks]; exact st⟩, hf7, o7, fr6.trans (fr7.mono fun id _ t => own id t)⟩
    simp (maxSteps := 1000000) (disch := first | omega | (simp only [AM.DB, List.length_set, List.length_map]; first | done | omega)) only [AM.RB, Nat.reduceAdd, Nat.reduceMul, Nat.reduceEqDiff, reduceCtorEq, b21_RT6]
    first | rfl | skip
end Go.Proofs.YtgdcbjpookldoaaDoor

namespace Go.Proofs.YtgdcbjpookldoaaDoor
open Go.AM
set_option maxRecDepth 8000
theorem b16_RT7 : type_of% (And.intro (@Option.isNone_none.{0}) (And.intro (@Option.isNone_some.{0}) (And.intro (@AM.bin_add) (And.intro (@AM.bin_eql) (And.intro (@AM.bin_lss) (And.intro (@AM.bin_neq) (And.intro (AM.bin_pnil ul_23) (And.intro (@AM.bin_sub) (And.intro (@AM.iaO_ok) (And.intro (AM.ia_slice el_22) (And.intro (@AM.ldO_agg) (And.intro (@AM.ldO_one) (And.intro (@AM.ld_ptr) (And.intro (AM.len_slice ul_22) (And.intro (@lk_3) (And.intro (@AM.op_binOp) (And.intro (@AM.op_call) (And.intro (@AM.op_indexAddr) (And.intro (@AM.op_len) (And.intro (@AM.op_load) (And.intro (@AM.op_slice) (And.intro (@AM.op_unOp) (And.intro (@AM.un_neg) (@AM.un_not)))))))))))))))))))))))) := And.intro (@Option.isNone_none.{0}) (And.intro (@Option.isNone_some.{0}) (And.intro (@AM.bin_add) (And.intro (@AM.bin_eql) (And.intro (@AM.bin_lss) (And.intro (@AM.bin_neq) (And.intro (AM.bin_pnil ul_23) (And.intro (@AM.bin_sub) (And.intro (@AM.iaO_ok) (And.intro (AM.ia_slice el_22) (And.intro (@AM.ldO_agg) (And.intro (@AM.ldO_one) (And.intro (@AM.ld_ptr) (And.intro (AM.len_slice ul_22) (And.intro (@lk_3) (And.intro (@AM.op_binOp) (And.intro (@AM.op_call) (And.intro (@AM.op_indexAddr) (And.intro (@AM.op_len) (And.intro (@AM.op_load) (And.intro (@AM.op_slice) (And.intro (@AM.op_unOp) (And.intro (@AM.un_neg) (@AM.un_not)))))))))))))))))))))))


/-! ### Whether cells are a route -/
def okS (L : List (List UInt8)) (B X : List Int) (i : Nat) : Bool := edgeL L (X.getD i 0) (X.getD (i + 1) 0) && !decide (X.getD (i + 1) 0 ∈ B)
def okN (L : List (List UInt8)) (B X : List Int) (k : Nat) : Bool := (List.range k).all (okS L B X)
theorem okN_succ (L : List (List UInt8)) (B X : List Int) (k : Nat) : okN L B X (k + 1) = (okN L B X k && okS L B X k) := by
  unfold okN; rw [List.range_succ, List.all_append]; simp
theorem okN_bad {L : List (List UInt8)} {B X : List Int} {k i : Nat} (h : okS L B X i = false) (hi : i < k) : okN L B X k = false := by
  unfold okN
  rw [Bool.eq_false_iff]
  intro q
  have := List.all_eq_true.1 q i (List.mem_range.2 hi)
  rw [h] at this; cases this
/-- What the program says of cells. -/
def chkR (L : List (List UInt8)) (B X : List Int) : Int := if X.length = 0 then 2 else if freeP L.flatten (X.getD 0 0) = true ∧ freeP L.flatten (X.getD (X.length - 1) 0) = true then (if okN L B X (X.length - 1) = true then 0 else 40) else 2

set_option maxHeartbeats 4000000 in
theorem check_w {h : AHeap} {p : Nat} {L : List (List UInt8)} {B0 : Nat → Prop} (m : Mk h p L B0) (f : Fit L) (hw : h.get GW = some (.cells waysC 123 false)) (hgl : GW < h.low) (hgp : ¬ GW = p) (hl : h.low ≤ h.next) {s : Value} {n : Nat} {X : List Int} (hX : Rd h 3 1 s n (X.map (.int .i64))) (hpX : ∀ id, idOf s id → ¬ id = p) {sb : Value} {nb : Nat} {B : List Int} (hB : Rd h 3 1 sb nb (B.map (.int .i64))) (hpB : ∀ id, idOf sb id → ¬ id = p) (hn : n ≤ 4000000) (hnb : nb ≤ 4000000) {Q : VQ}
    (hq : ∀ h', Mk h' p L B0 → Fr (fun id => id = p) h h' → Q (.int .i64 (chkR L B X)) h') : W 16 [pv p, s, sb] h Q := by
  have hlen : X.length = n := by have := hX.length; rw [List.length_map] at this; omega
  have d00 : decide ((0 : Int) = 0) = true := rfl
  have d20 : decide ((2 : Int) = 0) = false := rfl
  unfold chkR at hq
  rw [hlen] at hq
  obtain ⟨xb, xc, rfl⟩ := hB.form
  by_cases hz : n = 0
  · subst hz
    rw [if_pos rfl] at hq
    obtain ⟨xa, xk, rfl⟩ := hX.form
    refine AM.enter hp (fn := Tryd.f16) (rs := [.tmp 6]) (nt := 51) (by kernel_rfl) Tryd.func16 rfl rfl rfl (by kernel_rfl) ?_
    (repeat' (first | (simp (maxSteps := 1000000) (disch := first | omega | (simp only [AM.DB, List.length_set, List.length_map]; first | done | omega)) only [AM.RB, Nat.reduceAdd, Nat.reduceMul, Nat.reduceEqDiff, reduceCtorEq, b16_RT7, d00]) | refine AM.drawW_fine hp (by kernel_rfl) (by kernel_rfl) (by kernel_rfl) ?_ | refine AM.opW_tied (by kernel_rfl) ?_ | refine AM.opW_untied (by kernel_rfl) ?_))
    exact hq h m (Fr.refl _ _)
  rw [if_neg hz] at hq
  have hX' := hX
  rcases hX' with ⟨_, q, _⟩ | ⟨id, off, cap, c, e', o, rfl, hnc, hg, hfc, hd, he⟩
  · exact absurd q hz
  obtain rfl : e' = 3 := he.resolve_left (by omega)
  have dn : decide ((n : Int) = 0) = false := decide_eq_false (by omega)
  refine AM.enter hp (fn := Tryd.f16) (rs := [.tmp 6]) (nt := 51) (by kernel_rfl) Tryd.func16 rfl rfl rfl (by kernel_rfl) ?_
  (repeat' (first | (simp (maxSteps := 1000000) (disch := first | omega | (simp only [AM.DB, List.length_set, List.length_map]; first | done | omega)) only [AM.RB, Nat.reduceAdd, Nat.reduceMul, Nat.reduceEqDiff, reduceCtorEq, b16_RT7, dn, hX.ia el_22, Rd.ldi hX lk_3, Int.toNat_natCast, AM.wrap_i64]) | refine AM.drawW_fine hp (by kernel_rfl) (by kernel_rfl) (by kernel_rfl) ?_ | refine AM.opW_tied (by kernel_rfl) ?_ | refine AM.opW_untied (by kernel_rfl) ?_))
  have e1 : ((n : Int) - 1).toNat = n - 1 := by omega
  have e0 : Int.toNat 0 = 0 := rfl
  (repeat' (first | (simp (maxSteps := 1000000) (disch := first | omega | (simp only [AM.DB, List.length_set, List.length_map]; first | done | omega)) only [AM.RB, Nat.reduceAdd, Nat.reduceMul, Nat.reduceEqDiff, reduceCtorEq, b16_RT7, e1, e0]) | refine AM.drawW_fine hp (by kernel_rfl) (by kernel_rfl) (by kernel_rfl) ?_ | refine AM.opW_tied (by kernel_rfl) ?_ | refine AM.opW_untied (by kernel_rfl) ?_))
  refine may_w m f (X.getD 0 0) (X.getD (n - 1) 0) ?_
  cases hff : (freeP L.flatten (X.getD 0 0) && freeP L.flatten (X.getD (n - 1) 0)) with
  | false =>
    have h1 : ¬ (freeP L.flatten (X.getD 0 0) = true ∧ freeP L.flatten (X.getD (n - 1) 0) = true) := by
      rw [← Bool.and_eq_true, hff]; simp
    rw [if_neg h1] at hq ⊢
    (repeat' (first | (simp (maxSteps := 1000000) (disch := first | omega | (simp only [AM.DB, List.length_set, List.length_map]; first | done | omega)) only [AM.RB, Nat.reduceAdd, Nat.reduceMul, Nat.reduceEqDiff, reduceCtorEq, b16_RT7, d20]) | refine AM.drawW_fine hp (by kernel_rfl) (by kernel_rfl) (by kernel_rfl) ?_ | refine AM.opW_tied (by kernel_rfl) ?_ | refine AM.opW_untied (by kernel_rfl) ?_))
    exact hq h m (Fr.refl _ _)
  | true =>
  have h1 : freeP L.flatten (X.getD 0 0) = true ∧ freeP L.flatten (X.getD (n - 1) 0) = true := by
    rw [← Bool.and_eq_true, hff]
  rw [if_pos h1] at hq ⊢
  have t1 : Int.toNat 1 = 1 := rfl
  (repeat' (first | (simp (maxSteps := 1000000) (disch := first | omega | (simp only [AM.DB, List.length_set, List.length_map]; first | done | omega)) only [AM.RB, Nat.reduceAdd, Nat.reduceMul, Nat.reduceEqDiff, reduceCtorEq, b16_RT7, d00, AM.slc el_22 hg, AM.slbs_lo_i, t1, Nat.mul_one]) | refine AM.drawW_fine hp (by kernel_rfl) (by kernel_rfl) (by kernel_rfl) ?_ | refine AM.opW_tied (by kernel_rfl) ?_ | refine AM.opW_untied (by kernel_rfl) ?_))
  have rT : Rd h 3 1 (.slice (some ⟨id, off + 1, none⟩) (n - 1) (cap - 1)) (n - 1) ((X.drop 1).map (.int .i64)) := by
    refine .inr ⟨id, off + 1, cap - 1, c, 3, o, rfl, by omega, hg, by omega, ?_, .inr rfl⟩
    rw [List.map_drop, ← hd, List.drop_take, List.drop_drop]
    rw [show n * 1 - 1 = (n - 1) * 1 by omega]
  have dg : ∀ i, (X.drop 1).getD i 0 = X.getD (i + 1) 0 := fun i => by
    simp only [List.getD, List.getElem?_drop]
    rw [Nat.add_comm]
  refine AM.loop_w hp 51 (fun i : Nat => [(0, pv p), (1, .slice (some ⟨id, off, none⟩) n cap), (2, .slice xb nb xc), (30, .slice (some ⟨id, off + 1, none⟩) (n - 1) (cap - 1)), (31, .int .i64 (n - 1 : Nat)), (32, .int .i64 i)])
    (fun i h' => i ≤ n - 1 ∧ okN L B X i = true ∧ Mk h' p L B0 ∧ Fr (fun id => id = p) h h') (fun i => n - 1 - i) (by kernel_rfl) 0 ?_ ?_ ?_
  · simp (maxSteps := 1000000) (disch := first | omega | (simp only [AM.DB, List.length_set, List.length_map]; first | done | omega)) only [AM.RB, Nat.reduceAdd, Nat.reduceMul, Nat.reduceEqDiff, reduceCtorEq, b16_RT7]
    first | rfl | skip
  · exact ⟨Nat.zero_le _, rfl, m, Fr.refl _ _⟩
  rintro i h1 ρ ⟨hi, hok, m1, fr1⟩
  have hl1 := fr1.hl hl
  have hX1 := hX.fr fr1 hpX
  have rT1 := rT.fr fr1 (fun j q => hpX j q)
  have hw1 := fr1.get hw hgp
  have lo1 := fr1.low
  have ti : ((i : Int) + 1).toNat = i + 1 := by omega
  (repeat' (first | (simp (maxSteps := 1000000) (disch := first | omega | (simp only [AM.DB, List.length_set, List.length_map]; first | done | omega)) only [AM.RB, Nat.reduceAdd, Nat.reduceMul, Nat.reduceEqDiff, reduceCtorEq, b16_RT7]) | refine AM.drawW_fine hp (by kernel_rfl) (by kernel_rfl) (by kernel_rfl) ?_ | refine AM.opW_tied (by kernel_rfl) ?_ | refine AM.opW_untied (by kernel_rfl) ?_))
  refine AM.condV_split (fun hlt => ?_) (fun hlt => ?_)
  case' refine_2 =>
    obtain rfl : i = n - 1 := by omega
    rw [if_pos hok] at hq
    (repeat' (first | (simp (maxSteps := 1000000) (disch := first | omega | (simp only [AM.DB, List.length_set, List.length_map]; first | done | omega)) only [AM.RB, Nat.reduceAdd, Nat.reduceMul, Nat.reduceEqDiff, reduceCtorEq, b16_RT7]) | refine AM.drawW_fine hp (by kernel_rfl) (by kernel_rfl) (by kernel_rfl) ?_ | refine AM.opW_tied (by kernel_rfl) ?_ | refine AM.opW_untied (by kernel_rfl) ?_))
    exact hq _ m1 fr1
  have hin : i < n - 1 := by omega
  have os := okN_succ L B X i
  rw [hok, Bool.true_and] at os
  (repeat' (first | (simp (maxSteps := 1000000) (disch := first | omega | (simp only [AM.DB, List.length_set, List.length_map]; first | done | omega)) only [AM.RB, Nat.reduceAdd, Nat.reduceMul, Nat.reduceEqDiff, reduceCtorEq, b16_RT7, rT1.ia el_22, Rd.ldi rT1 lk_3, hX1.ia el_22, Rd.ldi hX1 lk_3, Int.toNat_natCast, dg]) | refine AM.drawW_fine hp (by kernel_rfl) (by kernel_rfl) (by kernel_rfl) ?_ | refine AM.opW_tied (by kernel_rfl) ?_ | refine AM.opW_untied (by kernel_rfl) ?_))
  refine edgeK_w m1 f hw1 (by omega) hl1 (X.getD i 0) (X.getD (i + 1) 0) fun h2 m2 fr2 => ?_
  have fr02 := fr1.trans fr2
  have bad : okS L B X i = false → ¬ okN L B X (n - 1) = true := fun q => by rw [okN_bad q hin]; simp
  cases he : edgeL L (X.getD i 0) (X.getD (i + 1) 0) with
  | false =>
    rw [if_neg (bad (by unfold okS; rw [he]; rfl))] at hq
    (repeat' (first | (simp (maxSteps := 1000000) (disch := first | omega | (simp only [AM.DB, List.length_set, List.length_map]; first | done | omega)) only [AM.RB, Nat.reduceAdd, Nat.reduceMul, Nat.reduceEqDiff, reduceCtorEq, b16_RT7]) | refine AM.drawW_fine hp (by kernel_rfl) (by kernel_rfl) (by kernel_rfl) ?_ | refine AM.opW_tied (by kernel_rfl) ?_ | refine AM.opW_untied (by kernel_rfl) ?_))
    exact hq _ m2 fr02
  | true =>
    (repeat' (first | (simp (maxSteps := 1000000) (disch := first | omega | (simp only [AM.DB, List.length_set, List.length_map]; first | done | omega)) only [AM.RB, Nat.reduceAdd, Nat.reduceMul, Nat.reduceEqDiff, reduceCtorEq, b16_RT7]) | refine AM.drawW_fine hp (by kernel_rfl) (by kernel_rfl) (by kernel_rfl) ?_ | refine AM.opW_tied (by kernel_rfl) ?_ | refine AM.opW_untied (by kernel_rfl) ?_))
    refine contains_w (hB.fr fr02 hpB) (by omega) (X.getD (i + 1) 0) ?_
    cases hc : decide (X.getD (i + 1) 0 ∈ B) with
    | true =>
      rw [if_neg (bad (by unfold okS; rw [he, hc]; rfl))] at hq
      (repeat' (first | (simp (maxSteps := 1000000) (disch := first | omega | (simp only [AM.DB, List.length_set, List.length_map]; first | done | omega)) only [AM.RB, Nat.reduceAdd, Nat.reduceMul, Nat.reduceEqDiff, reduceCtorEq, b16_RT7]) | refine AM.drawW_fine hp (by kernel_rfl) (by kernel_rfl) (by kernel_rfl) ?_ | refine AM.opW_tied (by kernel_rfl) ?_ | refine AM.opW_untied (by kernel_rfl) ?_))
      exact hq _ m2 fr02
    | false =>
      have ok1 : okN L B X (i + 1) = true := by rw [os]; unfold okS; rw [he, hc]; rfl
      (repeat' (first | (simp (maxSteps := 1000000) (disch := first | omega | (simp only [AM.DB, List.length_set, List.length_map]; first | done | omega)) only [AM.RB, Nat.reduceAdd, Nat.reduceMul, Nat.reduceEqDiff, reduceCtorEq, b16_RT7, AM.wrap_i64]) | refine AM.drawW_fine hp (by kernel_rfl) (by kernel_rfl) (by kernel_rfl) ?_ | refine AM.opW_tied (by kernel_rfl) ?_ | refine AM.opW_untied (by kernel_rfl) ?_))
      refine ⟨i + 1, by omega, ?_, by omega, ok1, m2, fr02⟩
      simp (maxSteps := 1000000) (disch := first | omega | (simp only [AM.DB, List.length_set, List.length_map]; first | done | omega)) only [AM.RB, Nat.reduceAdd, Nat.reduceMul, Nat.reduceEqDiff, reduceCtorEq, b16_RT7]
      first | rfl | skip
end Go.Proofs.YtgdcbjpookldoaaDoor

namespace Go.Proofs.YtgdcbjpookldoaaDoor
open Go.AM
set_option maxRecDepth 8000
theorem b3_RT8 : type_of% (And.intro (@AM.bin_add) (And.intro (@AM.bin_eql) (And.intro (@AM.bin_gtr) (And.intro (@AM.bin_lss) (And.intro (@AM.bin_neq) (And.intro (@AM.bin_sub) (And.intro (@AM.ex_tuple) (And.intro (@AM.iaO_ok) (And.intro (AM.ia_slice el_22) (And.intro (@AM.ldO_agg) (And.intro (@AM.ldO_one) (And.intro (@AM.ld_ptr) (And.intro (AM.len_slice ul_22) (And.intro (@lk_3) (And.intro (@AM.op_binOp) (And.intro (@AM.op_call) (And.intro (@AM.op_extract) (And.intro (@AM.op_indexAddr) (And.intro (@AM.op_len) (And.intro (@AM.op_load) (And.intro (@AM.op_unOp) (And.intro (AM.str_len ul_9) (And.intro (@AM.un_neg) (@AM.un_not)))))))))))))))))))))))) := And.intro (@AM.bin_add) (And.intro (@AM.bin_eql) (And.intro (@AM.bin_gtr) (And.intro (@AM.bin_lss) (And.intro (@AM.bin_neq) (And.intro (@AM.bin_sub) (And.intro (@AM.ex_tuple) (And.intro (@AM.iaO_ok) (And.intro (AM.ia_slice el_22) (And.intro (@AM.ldO_agg) (And.intro (@AM.ldO_one) (And.intro (@AM.ld_ptr) (And.intro (AM.len_slice ul_22) (And.intro (@lk_3) (And.intro (@AM.op_binOp) (And.intro (@AM.op_call) (And.intro (@AM.op_extract) (And.intro (@AM.op_indexAddr) (And.intro (@AM.op_len) (And.intro (@AM.op_load) (And.intro (@AM.op_unOp) (And.intro (AM.str_len ul_9) (And.intro (@AM.un_neg) (@AM.un_not)))))))))))))))))))))))


theorem nextL_free {L : List (List UInt8)} (f : Fit L) {b c : Int} (h : c ∈ nextL L b) : freeP L.flatten c = true := by
  have hc1 : decide (c ∈ nextL L b) = true := decide_eq_true h
  rw [edge_mem f] at hc1
  exact (edgeL_facts hc1).2.2.2
theorem nbA_free {L : List (List UInt8)} (f : Fit L) {B : List Int} {s r x : Int} (hr : freeP L.flatten r = true) {j : Nat} (w : Wk (nbA L B s) r j x) : freeP L.flatten x = true :=
  Wk.ok (ok := fun z => freeP L.flatten z = true) hr (fun b _ c hc => nextL_free f (List.mem_filter.1 hc).1) w
def wantV (b : Bool) : Value := .int .i64 (if b = true then 0 else 40)

set_option maxHeartbeats 16000000 in
theorem aroundLaw_w (l : List UInt8) (cell far : Int) {vb vp : Value} {B X : List Int} {h : AHeap} (hB : Rd h 3 1 vb B.length (B.map (.int .i64))) (hX : Rd h 3 1 vp X.length (X.map (.int .i64))) (hw0 : h.get GW = some (.cells waysC 123 false)) (hl0 : h.low = h.next) : W 3 [strV l, .int .i64 cell, vb, .int .i64 far, vp] h fun v _ => v = .bool true := by
  have hgl : GW < h.low := by have := AM.get_some_lt hw0; omega
  obtain ⟨ba, bc, rfl⟩ := hB.form
  obtain ⟨pa, pc, rfl⟩ := hX.form
  have d00 : decide ((0 : Int) = 0) = true := rfl
  have d100 : decide ((10 : Int) = 0) = false := rfl
  have d101 : decide ((10 : Int) = 10) = true := rfl
  refine AM.enter hp (fn := Tryd.f3) (rs := [.tmp 10]) (nt := 136) (by kernel_rfl) Tryd.func3 rfl rfl rfl (by kernel_rfl) ?_
  by_cases c1 : (230 : Int) < l.length
  · (repeat' (first | (simp (maxSteps := 1000000) (disch := first | omega | (simp only [AM.DB, List.length_set, List.length_map]; first | done | omega)) only [AM.RB, Nat.reduceAdd, Nat.reduceMul, Nat.reduceEqDiff, reduceCtorEq, b3_RT8, decide_eq_true c1]) | refine AM.drawW_fine hp (by kernel_rfl) (by kernel_rfl) (by kernel_rfl) ?_ | refine AM.opW_tied (by kernel_rfl) ?_ | refine AM.opW_untied (by kernel_rfl) ?_))
  by_cases c2 : (100 : Int) < B.length
  · (repeat' (first | (simp (maxSteps := 1000000) (disch := first | omega | (simp only [AM.DB, List.length_set, List.length_map]; first | done | omega)) only [AM.RB, Nat.reduceAdd, Nat.reduceMul, Nat.reduceEqDiff, reduceCtorEq, b3_RT8, decide_eq_false c1, decide_eq_true c2]) | refine AM.drawW_fine hp (by kernel_rfl) (by kernel_rfl) (by kernel_rfl) ?_ | refine AM.opW_tied (by kernel_rfl) ?_ | refine AM.opW_untied (by kernel_rfl) ?_))
  by_cases c3 : (100 : Int) < X.length
  · (repeat' (first | (simp (maxSteps := 1000000) (disch := first | omega | (simp only [AM.DB, List.length_set, List.length_map]; first | done | omega)) only [AM.RB, Nat.reduceAdd, Nat.reduceMul, Nat.reduceEqDiff, reduceCtorEq, b3_RT8, decide_eq_false c1, decide_eq_false c2, decide_eq_true c3]) | refine AM.drawW_fine hp (by kernel_rfl) (by kernel_rfl) (by kernel_rfl) ?_ | refine AM.opW_tied (by kernel_rfl) ?_ | refine AM.opW_untied (by kernel_rfl) ?_))
  (repeat' (first | (simp (maxSteps := 1000000) (disch := first | omega | (simp only [AM.DB, List.length_set, List.length_map]; first | done | omega)) only [AM.RB, Nat.reduceAdd, Nat.reduceMul, Nat.reduceEqDiff, reduceCtorEq, b3_RT8, decide_eq_false c1, decide_eq_false c2, decide_eq_false c3]) | refine AM.drawW_fine hp (by kernel_rfl) (by kernel_rfl) (by kernel_rfl) ?_ | refine AM.opW_tied (by kernel_rfl) ?_ | refine AM.opW_untied (by kernel_rfl) ?_))
  refine parseV_w l (by omega) (by omega) (fun a' b' hv h1 fr1 => ?_) (fun L hv p kv h1 m0 fr1 hp1 hid1 => ?_)
  · (repeat' (first | (simp (maxSteps := 1000000) (disch := first | omega | (simp only [AM.DB, List.length_set, List.length_map]; first | done | omega)) only [AM.RB, Nat.reduceAdd, Nat.reduceMul, Nat.reduceEqDiff, reduceCtorEq, b3_RT8]) | refine AM.drawW_fine hp (by kernel_rfl) (by kernel_rfl) (by kernel_rfl) ?_ | refine AM.opW_tied (by kernel_rfl) ?_ | refine AM.opW_untied (by kernel_rfl) ?_))
    refine refV_w l (by omega) (fr1.hl (by omega)) (fun a2 b2 hv' h2 fr2 => ?_) (fun L hv' => ?_)
    · rw [hv] at hv'; cases hv'
      (repeat' (first | (simp (maxSteps := 1000000) (disch := first | omega | (simp only [AM.DB, List.length_set, List.length_map]; first | done | omega)) only [AM.RB, Nat.reduceAdd, Nat.reduceMul, Nat.reduceEqDiff, reduceCtorEq, b3_RT8, AM.wrap_i64, d100, d101]) | refine AM.drawW_fine hp (by kernel_rfl) (by kernel_rfl) (by kernel_rfl) ?_ | refine AM.opW_tied (by kernel_rfl) ?_ | refine AM.opW_untied (by kernel_rfl) ?_))
    · rw [hv] at hv'; cases hv'
  (repeat' (first | (simp (maxSteps := 1000000) (disch := first | omega | (simp only [AM.DB, List.length_set, List.length_map]; first | done | omega)) only [AM.RB, Nat.reduceAdd, Nat.reduceMul, Nat.reduceEqDiff, reduceCtorEq, b3_RT8]) | refine AM.drawW_fine hp (by kernel_rfl) (by kernel_rfl) (by kernel_rfl) ?_ | refine AM.opW_tied (by kernel_rfl) ?_ | refine AM.opW_untied (by kernel_rfl) ?_))
  have G := verd_good hv
  have f := G.fit
  refine refV_w l (by omega) (fr1.hl (by omega)) (fun a2 b2 hv' h2 fr2 => ?_) (fun L' hv' q lv h2 r fr2 hq2 hid2 => ?_)
  · rw [hv] at hv'; cases hv'
  rw [hv] at hv'; cases hv'
  have nx1 := fr1.next
  have lw1 := fr1.low
  have k1 : Mk h1 p L (fun id => id < h.next) := Mk.start m0 hp1 hid1 (by omega) (fun id q => q)
  have k2 : Mk h2 p L (fun id => id < h.next ∨ id = q ∨ idOf lv id) := k1.more fr2 fun id e => by
    rcases e with e | e | e
    · exact .inl e
    · have := AM.get_some_lt r.1
      exact .inr ⟨by omega, by omega⟩
    · exact .inr ⟨hid2 id e, r.2.1.lt e⟩
  have fr02 := fr1.trans fr2
  have hw2 := hw0.fr0 fr02
  have lw2 := fr02.low
  have nx2 := fr02.next
  have lp1 := k1.lt
  have hK := f.k1024
  have hbd : L.length ≤ 4000000 ∧ (L.getD 0 []).length ≤ 4000000 := by have := f.r32; have := f.c32; omega
  have hpX : ∀ id, idOf (.slice pa X.length pc) id → ¬ id = p := fun id e => by have := hX.lt e; omega
  have hpB : ∀ id, idOf (.slice ba B.length bc) id → ¬ id = p := fun id e => by have := hB.lt e; omega
  have hgp : ¬ GW = p := by omega
  (repeat' (first | (simp (maxSteps := 1000000) (disch := first | omega | (simp only [AM.DB, List.length_set, List.length_map]; first | done | omega)) only [AM.RB, Nat.reduceAdd, Nat.reduceMul, Nat.reduceEqDiff, reduceCtorEq, b3_RT8, d00]) | refine AM.drawW_fine hp (by kernel_rfl) (by kernel_rfl) (by kernel_rfl) ?_ | refine AM.opW_tied (by kernel_rfl) ?_ | refine AM.opW_untied (by kernel_rfl) ?_))
  refine check_w k2 f hw2 (by omega) hgp (by omega) (hX.fr0 fr02) hpX (hB.fr0 fr02) hpB (by omega) (by omega) fun h3 k3 fr3 => ?_
  have hqp : ¬ q = p := by omega
  have hlp : ∀ id, idOf lv id → ¬ id = p := fun id e => by have := hid2 id e; omega
  have r3 := r.fr fr3 hqp hlp
  have hw3 := fr3.get hw2 hgp
  have hX3 := (hX.fr0 fr02).fr fr3 hpX
  have hB3 := (hB.fr0 fr02).fr fr3 hpB
  have lw3 := fr3.low
  have nx3 := fr3.next
  (repeat' (first | (simp (maxSteps := 1000000) (disch := first | omega | (simp only [AM.DB, List.length_set, List.length_map]; first | done | omega)) only [AM.RB, Nat.reduceAdd, Nat.reduceMul, Nat.reduceEqDiff, reduceCtorEq, b3_RT8]) | refine AM.drawW_fine hp (by kernel_rfl) (by kernel_rfl) (by kernel_rfl) ?_ | refine AM.opW_tied (by kernel_rfl) ?_ | refine AM.opW_untied (by kernel_rfl) ?_))
  refine AM.loop_w hp 136 (fun i : Nat => [(1, .int .i64 cell), (2, .slice ba B.length bc), (3, .int .i64 far), (4, .slice pa X.length pc), (11, pv p), (15, pv q), (19, .int .i64 (chkR L B X)), (20, wantV (okN L B X i)), (21, .int .i64 i)])
    (fun i h' => h' = h3 ∧ i ≤ X.length - 1) (fun i => X.length - 1 - i) (by kernel_rfl) 0 ?_ ?_ ?_
  · simp (maxSteps := 1000000) (disch := first | omega | (simp only [AM.DB, List.length_set, List.length_map]; first | done | omega)) only [AM.RB, Nat.reduceAdd, Nat.reduceMul, Nat.reduceEqDiff, reduceCtorEq, b3_RT8]
    first | rfl | skip
  · exact ⟨rfl, Nat.zero_le _⟩
  rintro i h4 ρ ⟨rfl, hi⟩
  have hi1 : ((i : Int) + 1).toNat = i + 1 := by omega
  (repeat' (first | (simp (maxSteps := 1000000) (disch := first | omega | (simp only [AM.DB, List.length_set, List.length_map]; first | done | omega)) only [AM.RB, Nat.reduceAdd, Nat.reduceMul, Nat.reduceEqDiff, reduceCtorEq, b3_RT8, AM.wrap_i64]) | refine AM.drawW_fine hp (by kernel_rfl) (by kernel_rfl) (by kernel_rfl) ?_ | refine AM.opW_tied (by kernel_rfl) ?_ | refine AM.opW_untied (by kernel_rfl) ?_))
  refine AM.condV_split (fun hlt => ?_) (fun hlt => ?_)
  · have hin : i < X.length - 1 := by omega
    have os := okN_succ L B X i
    unfold okS at os
    (repeat' (first | (simp (maxSteps := 1000000) (disch := first | omega | (simp only [AM.DB, List.length_set, List.length_map]; first | done | omega)) only [AM.RB, Nat.reduceAdd, Nat.reduceMul, Nat.reduceEqDiff, reduceCtorEq, b3_RT8, hX3.ia el_22, Rd.ldi hX3 lk_3, Int.toNat_natCast, AM.wrap_i64, hi1]) | refine AM.drawW_fine hp (by kernel_rfl) (by kernel_rfl) (by kernel_rfl) ?_ | refine AM.opW_tied (by kernel_rfl) ?_ | refine AM.opW_untied (by kernel_rfl) ?_))
    refine refEdge_w r3 G (X.getD i 0) (X.getD (i + 1) 0) ?_
    obtain ⟨ed, hed⟩ : ∃ b, edgeL L (X.getD i 0) (X.getD (i + 1) 0) = b := ⟨_, rfl⟩
    rw [hed] at os ⊢
    have jn : wantV (okN L B X i && ed) = (if ed = true then wantV (okN L B X i) else .int .i64 40) := by
      cases ed <;> simp [wantV]
    have hm0 : (okN L B X i && ed) = (okN L B X i && (ed && !decide (X.getD (i + 1) 0 ∈ B.take 0))) := by simp
    cases hed2 : ed
    all_goals
      rw [hed2] at os hm0 jn
      (repeat' (first | (simp (maxSteps := 1000000) (disch := first | omega | (simp only [AM.DB, List.length_set, List.length_map]; first | done | omega)) only [AM.RB, Nat.reduceAdd, Nat.reduceMul, Nat.reduceEqDiff, reduceCtorEq, b3_RT8]) | refine AM.drawW_fine hp (by kernel_rfl) (by kernel_rfl) (by kernel_rfl) ?_ | refine AM.opW_tied (by kernel_rfl) ?_ | refine AM.opW_untied (by kernel_rfl) ?_))
      refine AM.loop_w hp 136 (fun k : Nat => [(1, .int .i64 cell), (2, .slice ba B.length bc), (3, .int .i64 far), (4, .slice pa X.length pc), (11, pv p), (15, pv q), (19, .int .i64 (chkR L B X)), (20, wantV (okN L B X i && (ed && !decide (X.getD (i + 1) 0 ∈ B.take k)))), (21, .int .i64 i), (22, .int .i64 k)])
        (fun k h' => h' = h4 ∧ k ≤ B.length) (fun k => B.length - k) (by kernel_rfl) 0 ?_ ?_ ?_
      · rw [hed2]
        simp (maxSteps := 1000000) (disch := first | omega | (simp only [AM.DB, List.length_set, List.length_map]; first | done | omega)) only [AM.RB, Nat.reduceAdd, Nat.reduceMul, Nat.reduceEqDiff, reduceCtorEq, b3_RT8]
        simp [wantV]
      · exact ⟨rfl, Nat.zero_le _⟩
      rintro k h5 ρ5 ⟨rfl, hk⟩
      rw [hed2]
      (repeat' (first | (simp (maxSteps := 1000000) (disch := first | omega | (simp only [AM.DB, List.length_set, List.length_map]; first | done | omega)) only [AM.RB, Nat.reduceAdd, Nat.reduceMul, Nat.reduceEqDiff, reduceCtorEq, b3_RT8]) | refine AM.drawW_fine hp (by kernel_rfl) (by kernel_rfl) (by kernel_rfl) ?_ | refine AM.opW_tied (by kernel_rfl) ?_ | refine AM.opW_untied (by kernel_rfl) ?_))
      refine AM.condV_split (fun hkt => ?_) (fun hkt => ?_)
      · have tm := take_all_mem (l := B) (i := k) (by omega) (X.getD (i + 1) 0)
        (repeat' (first | (simp (maxSteps := 1000000) (disch := first | omega | (simp only [AM.DB, List.length_set, List.length_map]; first | done | omega)) only [AM.RB, Nat.reduceAdd, Nat.reduceMul, Nat.reduceEqDiff, reduceCtorEq, b3_RT8, hX3.ia el_22, Rd.ldi hX3 lk_3, hB3.ia el_22, Rd.ldi hB3 lk_3, Int.toNat_natCast, AM.wrap_i64, hi1]) | refine AM.drawW_fine hp (by kernel_rfl) (by kernel_rfl) (by kernel_rfl) ?_ | refine AM.opW_tied (by kernel_rfl) ?_ | refine AM.opW_untied (by kernel_rfl) ?_))
        refine AM.condV_split (fun hkk => ?_) (fun hkk => ?_)
        · rw [decide_eq_true hkk, Bool.or_true] at tm
          (repeat' (first | (simp (maxSteps := 1000000) (disch := first | omega | (simp only [AM.DB, List.length_set, List.length_map]; first | done | omega)) only [AM.RB, Nat.reduceAdd, Nat.reduceMul, Nat.reduceEqDiff, reduceCtorEq, b3_RT8, AM.wrap_i64]) | refine AM.drawW_fine hp (by kernel_rfl) (by kernel_rfl) (by kernel_rfl) ?_ | refine AM.opW_tied (by kernel_rfl) ?_ | refine AM.opW_untied (by kernel_rfl) ?_))
          refine ⟨k + 1, by omega, ?_, by omega⟩
          rw [tm]
          simp (maxSteps := 1000000) (disch := first | omega | (simp only [AM.DB, List.length_set, List.length_map]; first | done | omega)) only [AM.RB, Nat.reduceAdd, Nat.reduceMul, Nat.reduceEqDiff, reduceCtorEq, b3_RT8]
          simp [wantV]
        · rw [decide_eq_false hkk, Bool.or_false] at tm
          (repeat' (first | (simp (maxSteps := 1000000) (disch := first | omega | (simp only [AM.DB, List.length_set, List.length_map]; first | done | omega)) only [AM.RB, Nat.reduceAdd, Nat.reduceMul, Nat.reduceEqDiff, reduceCtorEq, b3_RT8, AM.wrap_i64]) | refine AM.drawW_fine hp (by kernel_rfl) (by kernel_rfl) (by kernel_rfl) ?_ | refine AM.opW_tied (by kernel_rfl) ?_ | refine AM.opW_untied (by kernel_rfl) ?_))
          refine ⟨k + 1, by omega, ?_, by omega⟩
          rw [tm]
          simp (maxSteps := 1000000) (disch := first | omega | (simp only [AM.DB, List.length_set, List.length_map]; first | done | omega)) only [AM.RB, Nat.reduceAdd, Nat.reduceMul, Nat.reduceEqDiff, reduceCtorEq, b3_RT8]
          first | rfl | skip
      · obtain rfl : k = B.length := by omega
        rw [List.take_length, ← os]
        (repeat' (first | (simp (maxSteps := 1000000) (disch := first | omega | (simp only [AM.DB, List.length_set, List.length_map]; first | done | omega)) only [AM.RB, Nat.reduceAdd, Nat.reduceMul, Nat.reduceEqDiff, reduceCtorEq, b3_RT8, AM.wrap_i64]) | refine AM.drawW_fine hp (by kernel_rfl) (by kernel_rfl) (by kernel_rfl) ?_ | refine AM.opW_tied (by kernel_rfl) ?_ | refine AM.opW_untied (by kernel_rfl) ?_))
        refine ⟨i + 1, by omega, ?_, by omega⟩
        simp (maxSteps := 1000000) (disch := first | omega | (simp only [AM.DB, List.length_set, List.length_map]; first | done | omega)) only [AM.RB, Nat.reduceAdd, Nat.reduceMul, Nat.reduceEqDiff, reduceCtorEq, b3_RT8]
        first | rfl | skip
  · obtain rfl : i = X.length - 1 := by omega
    have d22 : decide ((2 : Int) = 2) = true := rfl
    by_cases hz : X.length = 0
    case' pos =>
      have dz : decide ((X.length : Int) = 0) = true := decide_eq_true (by omega)
      have eC : chkR L B X = 2 := by unfold chkR; rw [if_pos hz]
      rw [eC]
      (repeat' (first | (simp (maxSteps := 1000000) (disch := first | omega | (simp only [AM.DB, List.length_set, List.length_map]; first | done | omega)) only [AM.RB, Nat.reduceAdd, Nat.reduceMul, Nat.reduceEqDiff, reduceCtorEq, b3_RT8, dz, d22]) | refine AM.drawW_fine hp (by kernel_rfl) (by kernel_rfl) (by kernel_rfl) ?_ | refine AM.opW_tied (by kernel_rfl) ?_ | refine AM.opW_untied (by kernel_rfl) ?_))
    case' neg =>
      have dz : decide ((X.length : Int) = 0) = false := decide_eq_false (by omega)
      have i0 : Int.toNat 0 = 0 := rfl
      have i1 : ((X.length : Int) - 1).toNat = X.length - 1 := by omega
      (repeat' (first | (simp (maxSteps := 1000000) (disch := first | omega | (simp only [AM.DB, List.length_set, List.length_map]; first | done | omega)) only [AM.RB, Nat.reduceAdd, Nat.reduceMul, Nat.reduceEqDiff, reduceCtorEq, b3_RT8, dz, hX3.ia el_22, Rd.ldi hX3 lk_3, i0, AM.wrap_i64]) | refine AM.drawW_fine hp (by kernel_rfl) (by kernel_rfl) (by kernel_rfl) ?_ | refine AM.opW_tied (by kernel_rfl) ?_ | refine AM.opW_untied (by kernel_rfl) ?_))
      refine refFree_w r3 G.rows hbd G.all (X.getD 0 0) ?_
      rw [G.free]
      cases hf0 : freeP L.flatten (X.getD 0 0)
    case' neg.false =>
      have eC : chkR L B X = 2 := by unfold chkR; rw [if_neg hz, if_neg (by rw [hf0]; simp)]
      rw [eC]
      (repeat' (first | (simp (maxSteps := 1000000) (disch := first | omega | (simp only [AM.DB, List.length_set, List.length_map]; first | done | omega)) only [AM.RB, Nat.reduceAdd, Nat.reduceMul, Nat.reduceEqDiff, reduceCtorEq, b3_RT8, d22]) | refine AM.drawW_fine hp (by kernel_rfl) (by kernel_rfl) (by kernel_rfl) ?_ | refine AM.opW_tied (by kernel_rfl) ?_ | refine AM.opW_untied (by kernel_rfl) ?_))
    case' neg.true =>
      (repeat' (first | (simp (maxSteps := 1000000) (disch := first | omega | (simp only [AM.DB, List.length_set, List.length_map]; first | done | omega)) only [AM.RB, Nat.reduceAdd, Nat.reduceMul, Nat.reduceEqDiff, reduceCtorEq, b3_RT8, hX3.ia el_22, Rd.ldi hX3 lk_3, i1, AM.wrap_i64]) | refine AM.drawW_fine hp (by kernel_rfl) (by kernel_rfl) (by kernel_rfl) ?_ | refine AM.opW_tied (by kernel_rfl) ?_ | refine AM.opW_untied (by kernel_rfl) ?_))
      refine refFree_w r3 G.rows hbd G.all (X.getD (X.length - 1) 0) ?_
      rw [G.free]
      cases hf1 : freeP L.flatten (X.getD (X.length - 1) 0)
    case' neg.true.false =>
      have eC : chkR L B X = 2 := by unfold chkR; rw [if_neg hz, if_neg (by rw [hf1]; simp)]
      rw [eC]
      (repeat' (first | (simp (maxSteps := 1000000) (disch := first | omega | (simp only [AM.DB, List.length_set, List.length_map]; first | done | omega)) only [AM.RB, Nat.reduceAdd, Nat.reduceMul, Nat.reduceEqDiff, reduceCtorEq, b3_RT8, d22]) | refine AM.drawW_fine hp (by kernel_rfl) (by kernel_rfl) (by kernel_rfl) ?_ | refine AM.opW_tied (by kernel_rfl) ?_ | refine AM.opW_untied (by kernel_rfl) ?_))
    case' neg.true.true =>
      have eC : wantV (okN L B X (X.length - 1)) = .int .i64 (chkR L B X) := by unfold chkR; rw [if_neg hz, if_pos ⟨hf0, hf1⟩]; rfl
      rw [eC]
      (repeat' (first | (simp (maxSteps := 1000000) (disch := first | omega | (simp only [AM.DB, List.length_set, List.length_map]; first | done | omega)) only [AM.RB, Nat.reduceAdd, Nat.reduceMul, Nat.reduceEqDiff, reduceCtorEq, b3_RT8, decide_eq_true (rfl : chkR L B X = chkR L B X)]) | refine AM.drawW_fine hp (by kernel_rfl) (by kernel_rfl) (by kernel_rfl) ?_ | refine AM.opW_tied (by kernel_rfl) ?_ | refine AM.opW_untied (by kernel_rfl) ?_))
    all_goals
      refine around_w k3 f hw3 (by omega) hgp (by omega) cell far hB3 (fun id e => .inl (hB.lt e)) (by omega) (fun hno => ?_) (fun hfc hfar v1 l1 h5 o5 ps5 mem5 k5 fr5 => ?_)
      · (repeat' (first | (simp (maxSteps := 1000000) (disch := first | omega | (simp only [AM.DB, List.length_set, List.length_map]; first | done | omega)) only [AM.RB, Nat.reduceAdd, Nat.reduceMul, Nat.reduceEqDiff, reduceCtorEq, b3_RT8]) | refine AM.drawW_fine hp (by kernel_rfl) (by kernel_rfl) (by kernel_rfl) ?_ | refine AM.opW_tied (by kernel_rfl) ?_ | refine AM.opW_untied (by kernel_rfl) ?_))
        refine refAround_w r3 G (by omega) cell far hB3 (by omega) (fun _ => ?_) (fun hfc hfar v2 l2 h6 o6 ps6 mem6 fr6 => ?_)
        · (repeat' (first | (simp (maxSteps := 1000000) (disch := first | omega | (simp only [AM.DB, List.length_set, List.length_map]; first | done | omega)) only [AM.RB, Nat.reduceAdd, Nat.reduceMul, Nat.reduceEqDiff, reduceCtorEq, b3_RT8]) | refine AM.drawW_fine hp (by kernel_rfl) (by kernel_rfl) (by kernel_rfl) ?_ | refine AM.opW_tied (by kernel_rfl) ?_ | refine AM.opW_untied (by kernel_rfl) ?_))
          refine same_w (l := []) (m := []) (AM.Rd.nil _ _ _) (AM.Rd.nil _ _ _) (by omega) ?_
          (repeat' (first | (simp (maxSteps := 1000000) (disch := first | omega | (simp only [AM.DB, List.length_set, List.length_map]; first | done | omega)) only [AM.RB, Nat.reduceAdd, Nat.reduceMul, Nat.reduceEqDiff, reduceCtorEq, b3_RT8, decide_eq_true (rfl : ([] : List Int) = [])]) | refine AM.drawW_fine hp (by kernel_rfl) (by kernel_rfl) (by kernel_rfl) ?_ | refine AM.opW_tied (by kernel_rfl) ?_ | refine AM.opW_untied (by kernel_rfl) ?_))
        · exfalso
          rcases hno with e | e
          · rw [hfc] at e; cases e
          · omega
      · obtain ⟨ua, uc, rfl⟩ := o5.form
        (repeat' (first | (simp (maxSteps := 1000000) (disch := first | omega | (simp only [AM.DB, List.length_set, List.length_map]; first | done | omega)) only [AM.RB, Nat.reduceAdd, Nat.reduceMul, Nat.reduceEqDiff, reduceCtorEq, b3_RT8]) | refine AM.drawW_fine hp (by kernel_rfl) (by kernel_rfl) (by kernel_rfl) ?_ | refine AM.opW_tied (by kernel_rfl) ?_ | refine AM.opW_untied (by kernel_rfl) ?_))
        have lw5 := fr5.low
        have nx5 := fr5.next
        refine refAround_w (r3.fr fr5 hqp hlp) G (by omega) cell far (hB3.fr fr5 hpB) (by omega) (fun e => ?_) (fun _ _ v2 l2 h6 o6 ps6 mem6 fr6 => ?_)
        · exfalso
          rcases e with e | e
          · rw [hfc] at e; cases e
          · omega
        obtain ⟨va, vc, rfl⟩ := o6.form
        have hll : l1 = l2 := by
          refine AM.ltL_eq ps5 ps6 fun x => ?_
          rw [mem5, mem6]
          constructor
          · rintro ⟨e1, e2⟩; exact ⟨freeP_in e1, e2⟩
          · rintro ⟨_, j, hj, w⟩; exact ⟨nbA_free f hfc w, j, hj, w⟩
        have ln : l1.length ≤ L.flatten.length := AM.nodup_len (ps5.imp fun h => by omega) fun x hx => freeP_in ((mem5 x).1 hx).1
        (repeat' (first | (simp (maxSteps := 1000000) (disch := first | omega | (simp only [AM.DB, List.length_set, List.length_map]; first | done | omega)) only [AM.RB, Nat.reduceAdd, Nat.reduceMul, Nat.reduceEqDiff, reduceCtorEq, b3_RT8]) | refine AM.drawW_fine hp (by kernel_rfl) (by kernel_rfl) (by kernel_rfl) ?_ | refine AM.opW_tied (by kernel_rfl) ?_ | refine AM.opW_untied (by kernel_rfl) ?_))
        refine same_w (o5.fr0 fr6).rd o6.rd (by omega) ?_
        rw [decide_eq_true hll]
        (repeat' (first | (simp (maxSteps := 1000000) (disch := first | omega | (simp only [AM.DB, List.length_set, List.length_map]; first | done | omega)) only [AM.RB, Nat.reduceAdd, Nat.reduceMul, Nat.reduceEqDiff, reduceCtorEq, b3_RT8]) | refine AM.drawW_fine hp (by kernel_rfl) (by kernel_rfl) (by kernel_rfl) ?_ | refine AM.opW_tied (by kernel_rfl) ?_ | refine AM.opW_untied (by kernel_rfl) ?_))
end Go.Proofs.YtgdcbjpookldoaaDoor
