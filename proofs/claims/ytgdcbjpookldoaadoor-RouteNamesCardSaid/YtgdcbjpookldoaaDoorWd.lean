/- Walks of this claim's functions, and plain laws. -/
import Derived.Test.YtgdcbjpookldoaaDoorWc
import Derived.Test.YtgdcbjpookldoaaDoorAMBfs
set_option linter.unusedSimpArgs false
set_option linter.unusedVariables false
namespace Go.Proofs.YtgdcbjpookldoaaDoor
open Go.AM
set_option maxRecDepth 8000
theorem b20_RT4 : type_of% (And.intro (@AM.alK_some) (And.intro (@al_22) (And.intro (@al_3) (And.intro (@al_96) (And.intro (@AM.bin_add) (And.intro (@AM.bin_gtr) (And.intro (@AM.bin_leq) (And.intro (@AM.bin_lss) (And.intro (@AM.bin_neq) (And.intro (AM.bsW_int bs_22) (And.intro (AM.bsW_nil bs_22) (And.intro (AM.bsW_slice bs_22) (And.intro (AM.bsW_string bs_22) (And.intro (@AM.ex_tuple) (And.intro (@AM.fa_ptr) (And.intro (@fd_100_2) (And.intro (@AM.iaO_ok) (And.intro (AM.ia_slice el_22) (And.intro (@AM.ldO_agg) (And.intro (@AM.ldO_one) (And.intro (@AM.ld_ptr) (And.intro (AM.len_slice ul_22) (And.intro (@lk_22) (And.intro (@lk_3) (And.intro (@lk_96) (And.intro (@lk_98) (And.intro (@AM.op_alloc) (And.intro (@AM.op_append) (And.intro (@AM.op_binOp) (And.intro (@AM.op_buildSlice) (And.intro (@AM.op_call) (And.intro (@AM.op_extract) (And.intro (@AM.op_fieldAddr) (And.intro (@AM.op_indexAddr) (And.intro (@AM.op_len) (And.intro (@AM.op_load) (And.intro (@AM.op_lookup) (And.intro (@AM.op_mapUpdate) (And.intro (@AM.op_nilCheck) (And.intro (@AM.op_store) (And.intro (@AM.op_unOp) (And.intro (@AM.stO_agg) (And.intro (@AM.stO_bool) (And.intro (@AM.stO_int) (And.intro (@AM.stO_map) (And.intro (@AM.stO_pointer) (And.intro (@AM.stO_slice) (And.intro (@AM.stO_string) (And.intro (@AM.st_ptr) (And.intro (@sz_22) (And.intro (@sz_3) (And.intro (@sz_96) (And.intro (@AM.un_neg) (@AM.un_not)))))))))))))))))))))))))))))))))))))))))))))))))))))) := And.intro (@AM.alK_some) (And.intro (@al_22) (And.intro (@al_3) (And.intro (@al_96) (And.intro (@AM.bin_add) (And.intro (@AM.bin_gtr) (And.intro (@AM.bin_leq) (And.intro (@AM.bin_lss) (And.intro (@AM.bin_neq) (And.intro (AM.bsW_int bs_22) (And.intro (AM.bsW_nil bs_22) (And.intro (AM.bsW_slice bs_22) (And.intro (AM.bsW_string bs_22) (And.intro (@AM.ex_tuple) (And.intro (@AM.fa_ptr) (And.intro (@fd_100_2) (And.intro (@AM.iaO_ok) (And.intro (AM.ia_slice el_22) (And.intro (@AM.ldO_agg) (And.intro (@AM.ldO_one) (And.intro (@AM.ld_ptr) (And.intro (AM.len_slice ul_22) (And.intro (@lk_22) (And.intro (@lk_3) (And.intro (@lk_96) (And.intro (@lk_98) (And.intro (@AM.op_alloc) (And.intro (@AM.op_append) (And.intro (@AM.op_binOp) (And.intro (@AM.op_buildSlice) (And.intro (@AM.op_call) (And.intro (@AM.op_extract) (And.intro (@AM.op_fieldAddr) (And.intro (@AM.op_indexAddr) (And.intro (@AM.op_len) (And.intro (@AM.op_load) (And.intro (@AM.op_lookup) (And.intro (@AM.op_mapUpdate) (And.intro (@AM.op_nilCheck) (And.intro (@AM.op_store) (And.intro (@AM.op_unOp) (And.intro (@AM.stO_agg) (And.intro (@AM.stO_bool) (And.intro (@AM.stO_int) (And.intro (@AM.stO_map) (And.intro (@AM.stO_pointer) (And.intro (@AM.stO_slice) (And.intro (@AM.stO_string) (And.intro (@AM.st_ptr) (And.intro (@sz_22) (And.intro (@sz_3) (And.intro (@sz_96) (And.intro (@AM.un_neg) (@AM.un_not)))))))))))))))))))))))))))))))))))))))))))))))))))))


/-- A map of numbers that has these keys. -/
def keysM (dl : List (Int × Value)) (K : List Int) : Prop := ∀ x, (mgetL dl x).isSome = decide (x ∈ K)
theorem keysM.set {dl : List (Int × Value)} {K : List Int} (h : keysM dl K) (b : Int) (v : Value) (hb : b ∉ K) : keysM (msetL dl b v) (K ++ [b]) := by
  intro x
  rw [AM.mget_set]
  by_cases e : x = b
  · subst e; simp
  · rw [if_neg e, h x]; simp [e]

theorem allP_in {K : List UInt8} {x : Int} : ∀ {n : Nat}, x ∈ allP K n ↔ (0 ≤ x ∧ x < n) ∧ freeP K x = true
  | 0 => ⟨fun h => (by cases h), fun ⟨h, _⟩ => by omega⟩
  | n + 1 => by
    rw [allP, List.mem_append, allP_in (n := n)]
    by_cases h : freeP K n = true
    · rw [if_pos h, List.mem_singleton]
      constructor
      · rintro (⟨h1, h2⟩ | rfl)
        · exact ⟨by omega, h2⟩
        · exact ⟨by omega, h⟩
      · rintro ⟨h1, h2⟩
        by_cases e : x = n
        · exact .inr e
        · exact .inl ⟨by omega, h2⟩
    · rw [if_neg h]
      constructor
      · rintro (⟨h1, h2⟩ | h)
        · exact ⟨by omega, h2⟩
        · cases h
      · rintro ⟨h1, h2⟩
        by_cases e : x = n
        · subst e; exact absurd h2 h
        · exact .inl ⟨by omega, h2⟩
theorem allP_srt (K : List UInt8) : ∀ n, (allP K n).Pairwise (fun a b => a < b)
  | 0 => List.Pairwise.nil
  | n + 1 => by
    rw [allP]
    refine List.pairwise_append.2 ⟨allP_srt K n, ?_, fun a ha b hb => ?_⟩
    · split
      · exact List.pairwise_singleton _ _
      · exact List.Pairwise.nil
    · have h1 := (allP_in.1 ha).1
      split at hb
      · rw [List.mem_singleton.1 hb]; omega
      · cases hb
/-- Those of a list that are keys. -/
def inK (K l : List Int) : List Int := l.filter fun c => decide (c ∈ K)
theorem inK_succ (K : List Int) {l : List Int} {i : Nat} (hi : i < l.length) : inK K (l.take (i + 1)) = inK K (l.take i) ++ if l.getD i 0 ∈ K then [l.getD i 0] else [] := by
  unfold inK
  have e : l.getD i 0 = l[i] := by simp [List.getD, hi]
  rw [List.take_succ_eq_append_getElem hi, List.filter_append, e]
  by_cases h : l[i] ∈ K <;> simp [h]
/-- What the loop over rounds keeps: the search's objects (its box c9, the struct sp, the maps o1, o2), the round's box c11, who came last. -/
structure ArI (h h' : AHeap) (p sp c9 o1 o2 c11 : Nat) (L : List (List UInt8)) (B0 : Nat → Prop) (ml : List (Int × Value)) (K : List Int) (atv : Value) (at' : List Int) (r : Int) (C : Nat → Prop) : Prop where
  g9 : h'.get c9 = some (.cells [pv sp] 96 false)
  gs : h'.get sp = some (.cells [pv p, .map (some o1), .map (some o2)] 100 false)
  gm : h'.get o1 = some (.map (encM ml))
  gd : ∃ dl, h'.get o2 = some (.map (encM dl)) ∧ keysM dl K
  g11 : h'.get c11 = some (.cells [.int .i64 r] 3 false)
  o : Ow h' 3 1 atv at'.length (at'.map (.int .i64))
  new : ∀ id, idOf atv id → h.next + 4 ≤ id
  c : h.next + 4 ≤ c11
  m : Mk h' p L C
  cB : ∀ id, B0 id → C id
  cO : C c9 ∧ C sp ∧ C o1 ∧ C o2 ∧ C c11
  cA : ∀ id, idOf atv id → C id
  fr : Fr (fun id => id = p) h h'

theorem ArI.step {h h1 h2 : AHeap} {p sp c9 o1 o2 c11 : Nat} {L : List (List UInt8)} {B0 T : Nat → Prop} {ml : List (Int × Value)} {K K' : List Int} {atv : Value} {at' : List Int} {r : Int} {C C' : Nat → Prop} (x : ArI h h1 p sp c9 o1 o2 c11 L B0 ml K atv at' r C) (fr : Fr T h1 h2)
    (h9 : ¬ T c9) (hs : ¬ T sp) (ho : ¬ T o1) (h11 : ¬ T c11) (ha : ∀ id, idOf atv id → ¬ T id) (gd : ∃ dl, h2.get o2 = some (.map (encM dl)) ∧ keysM dl K') (m : Mk h2 p L C') (hC : ∀ id, C id → C' id) (frp : Fr (fun id => id = p) h h2) : ArI h h2 p sp c9 o1 o2 c11 L B0 ml K' atv at' r C' :=
  ⟨fr.get x.g9 h9, fr.get x.gs hs, fr.get x.gm ho, gd, fr.get x.g11 h11, x.o.fr fr ha, x.new, x.c, m, fun id q => hC id (x.cB id q), ⟨hC _ x.cO.1, hC _ x.cO.2.1, hC _ x.cO.2.2.1, hC _ x.cO.2.2.2.1, hC _ x.cO.2.2.2.2⟩, fun id q => hC id (x.cA id q), frp⟩

theorem Fr.ext2 {T : Nat → Prop} {h h1 h2 : AHeap} (fr : Fr T h h1) (hB : ∀ id, id < h.next → h2.get id = h1.get id) (hn : h1.next ≤ h2.next) (hl : h2.low = h1.low) : Fr T h h2 :=
  ⟨Nat.le_trans fr.next hn, by rw [hl]; exact fr.low, fun id h3 h4 => by rw [hB id h3]; exact fr.old id h3 h4⟩

theorem Mk.frC {h h' : AHeap} {p : Nat} {L : List (List UInt8)} {B C T : Nat → Prop} (m : Mk h p L B) (fr : Fr T h h') (hT : ∀ id, T id → B id) (hC : ∀ id, C id → B id ∨ (h.next ≤ id ∧ id < h'.next)) : Mk h' p L C := by
  obtain ⟨⟨S, m, hB⟩, hb⟩ := m
  have hn := fr.next
  refine ⟨⟨S, m.fr fr fun id q1 q2 => hB id (hT id q2) q1, fun id q1 q2 => ?_⟩, fun id q => ?_⟩
  · rcases hC id q1 with q | q
    · exact hB id q q2
    · have := m.lt q2; omega
  · rcases hC id q with q | q
    · exact Nat.lt_of_lt_of_le (hb id q) hn
    · exact q.2
/-- Keys stand once each, and those who came last are keys. -/
def goodA (st : List Int × List Int) : Prop := st.1.Nodup ∧ st.2.length ≤ st.1.length
theorem stepA_good {st : List Int × List Int} (g : goodA st) (b : Int) : goodA (stepA st b) := by
  unfold stepA
  split
  · exact g
  · rename_i h
    refine ⟨?_, by have := g.2; simp only [List.length_append, List.length_cons, List.length_nil]; omega⟩
    rw [List.nodup_append]
    refine ⟨g.1, by simp, ?_⟩
    intro a ha c hc
    rw [List.mem_singleton.1 hc]
    rintro rfl
    exact h ha
theorem visA_good {l : List Int} : ∀ {st : List Int × List Int}, goodA st → goodA (visA l st) := by
  induction l with
  | nil => intro st g; exact g
  | cons b l ih => intro st g; exact ih (stepA_good g b)
theorem rndA_good (N : Int → List Int) {l : List Int} : ∀ {st : List Int × List Int}, goodA st → goodA (rndA N l st) := by
  induction l with
  | nil => intro st g; exact g
  | cons b l ih => intro st g; exact ih (visA_good g)
theorem lvlA_good (N : Int → List Int) (r : Int) : ∀ k, goodA (lvlA N r k)
  | 0 => ⟨List.nodup_cons.2 ⟨fun h => (by cases h), List.nodup_nil⟩, Nat.le_refl _⟩
  | k + 1 => rndA_good N ⟨(lvlA_good N r k).1, Nat.zero_le _⟩

set_option maxHeartbeats 8000000 in
theorem around_w {h : AHeap} {p n : Nat} {L : List (List UInt8)} {B0 : Nat → Prop} (m : Mk h p L B0) (f : Fit L) (hw : h.get GW = some (.cells waysC 123 false)) (hgl : GW < h.low) (hgp : ¬ GW = p) (hl : h.low ≤ h.next) (cell far : Int) {s : Value} {B : List Int} (hs : Rd h 3 1 s n (B.map (.int .i64))) (hB0 : ∀ id, idOf s id → B0 id) (hn : n ≤ 4000000) {Q : VQ}
    (hno : freeP L.flatten cell = false ∨ far < 0 → Q (.slice none 0 0) h)
    (hok : freeP L.flatten cell = true → 0 ≤ far → ∀ v (l : List Int) h', Ow h' 3 1 v l.length (l.map (.int .i64)) → l.Pairwise (fun a b => a < b) → (∀ x, x ∈ l ↔ freeP L.flatten x = true ∧ ∃ j : Nat, (j : Int) ≤ far ∧ Wk (nbA L B cell) cell j x) → Mk h' p L B0 → Fr (fun id => id = p) h h' → Q v h') : W 20 [pv p, .int .i64 cell, s, .int .i64 far] h Q := by
  obtain ⟨sa, sc, rfl⟩ := hs.form
  have d20 : decide ((2 : Int) = 0) = false := rfl
  have d00 : decide ((0 : Int) = 0) = true := rfl
  refine AM.enter hp (fn := Tryd.f20) (rs := [.tmp 8]) (nt := 112) (by kernel_rfl) Tryd.func20 rfl rfl rfl (by kernel_rfl) ?_
  (repeat' (first | (simp (maxSteps := 1000000) (disch := first | omega | (simp only [AM.DB, List.length_set, List.length_map]; first | done | omega)) only [AM.RB, Nat.reduceAdd, Nat.reduceMul, Nat.reduceEqDiff, reduceCtorEq, b20_RT4]) | refine AM.drawW_loose (id := 13) hp (by kernel_rfl) (by kernel_rfl) ?_ | refine AM.drawW_fine (id := 17) hp (by kernel_rfl) (by kernel_rfl) (by kernel_rfl) ?_ | refine AM.opW_tied (by kernel_rfl) ?_ | refine AM.opW_untied (by kernel_rfl) ?_))
  refine may_w m f cell cell ?_
  cases hf : freeP L.flatten cell with
  | false =>
    simp only [Bool.false_eq_true, false_and, if_false]
    (repeat' (first | (simp (maxSteps := 1000000) (disch := first | omega | (simp only [AM.DB, List.length_set, List.length_map]; first | done | omega)) only [AM.RB, Nat.reduceAdd, Nat.reduceMul, Nat.reduceEqDiff, reduceCtorEq, b20_RT4, d20]) | refine AM.drawW_loose (id := 13) hp (by kernel_rfl) (by kernel_rfl) ?_ | refine AM.drawW_fine (id := 17) hp (by kernel_rfl) (by kernel_rfl) (by kernel_rfl) ?_ | refine AM.opW_tied (by kernel_rfl) ?_ | refine AM.opW_untied (by kernel_rfl) ?_))
    exact hno (.inl hf)
  | true =>
  simp only [and_self, if_true]
  by_cases hfar : far < 0
  · (repeat' (first | (simp (maxSteps := 1000000) (disch := first | omega | (simp only [AM.DB, List.length_set, List.length_map]; first | done | omega)) only [AM.RB, Nat.reduceAdd, Nat.reduceMul, Nat.reduceEqDiff, reduceCtorEq, b20_RT4, d00, decide_eq_true hfar]) | refine AM.drawW_loose (id := 13) hp (by kernel_rfl) (by kernel_rfl) ?_ | refine AM.drawW_fine (id := 17) hp (by kernel_rfl) (by kernel_rfl) (by kernel_rfl) ?_ | refine AM.opW_tied (by kernel_rfl) ?_ | refine AM.opW_untied (by kernel_rfl) ?_))
    exact hno (.inr hfar)
  (repeat' (first | (simp (maxSteps := 1000000) (disch := first | omega | (simp only [AM.DB, List.length_set, List.length_map]; first | done | omega)) only [AM.RB, Nat.reduceAdd, Nat.reduceMul, Nat.reduceEqDiff, reduceCtorEq, b20_RT4, d00, decide_eq_false hfar]) | refine AM.drawW_loose (id := 13) hp (by kernel_rfl) (by kernel_rfl) ?_ | refine AM.drawW_fine (id := 17) hp (by kernel_rfl) (by kernel_rfl) (by kernel_rfl) ?_ | refine AM.opW_tied (by kernel_rfl) ?_ | refine AM.opW_untied (by kernel_rfl) ?_))
  refine without_w hs hn hl cell fun h1 ml gs1 gm1 om gd1 fr1 n1 => ?_
  have l1 := fr1.low
  have hl1 := fr1.hl hl
  (repeat' (first | (simp (maxSteps := 1000000) (disch := first | omega | (simp only [AM.DB, List.length_set, List.length_map]; first | done | omega)) only [AM.RB, Nat.reduceAdd, Nat.reduceMul, Nat.reduceEqDiff, reduceCtorEq, b20_RT4, gs1]) | refine AM.drawW_loose (id := 13) hp (by kernel_rfl) (by kernel_rfl) ?_ | refine AM.drawW_fine (id := 17) hp (by kernel_rfl) (by kernel_rfl) (by kernel_rfl) ?_ | refine AM.opW_tied (by kernel_rfl) ?_ | refine AM.opW_untied (by kernel_rfl) ?_))
  generalize hE_ : AHeap.put (AHeap.alloc h1 _) _ _ = h2; obtain ⟨g2, fr2, n2, l2⟩ := AM.box_get hE_ (by omega); clear hE_
  have gs2 := gs1.fr0 fr2
  have gm2 := gm1.fr0 fr2
  have gd2 : h2.get (h.next + 1) = some (.map (encM [])) := gd1.fr0 fr2
  have lm2 : h2.low ≤ h.next + 1 := by omega
  (repeat' (first | (simp (maxSteps := 1000000) (disch := first | omega | (simp only [AM.DB, List.length_set, List.length_map]; first | done | omega)) only [AM.RB, Nat.reduceAdd, Nat.reduceMul, Nat.reduceEqDiff, reduceCtorEq, b20_RT4, g2, gs2, AM.update_enc mp_98 gd2 lm2]) | refine AM.drawW_loose (id := 13) hp (by kernel_rfl) (by kernel_rfl) ?_ | refine AM.drawW_fine (id := 17) hp (by kernel_rfl) (by kernel_rfl) (by kernel_rfl) ?_ | refine AM.opW_tied (by kernel_rfl) ?_ | refine AM.opW_untied (by kernel_rfl) ?_))
  generalize hE_ : AHeap.put h2 _ _ = h3; obtain ⟨g3, fr3, n3, l3⟩ := AM.put_get hE_ (by omega); clear hE_
  (repeat' (first | (simp (maxSteps := 1000000) (disch := first | omega | (simp only [AM.DB, List.length_set, List.length_map]; first | done | omega)) only [AM.RB, Nat.reduceAdd, Nat.reduceMul, Nat.reduceEqDiff, reduceCtorEq, b20_RT4]) | refine AM.drawW_loose (id := 13) hp (by kernel_rfl) (by kernel_rfl) ?_ | refine AM.drawW_fine (id := 17) hp (by kernel_rfl) (by kernel_rfl) (by kernel_rfl) ?_ | refine AM.opW_tied (by kernel_rfl) ?_ | refine AM.opW_untied (by kernel_rfl) ?_))
  generalize hE_ : AHeap.alloc h3 _ = h4; obtain ⟨g4, fr4, n4, l4⟩ := AM.new_get hE_; clear hE_
  generalize hE_ : AHeap.put (AHeap.alloc h4 _) _ _ = h5; obtain ⟨g5, fr5, n5, l5⟩ := AM.box_get hE_ (by omega); clear hE_
  have fr05 : Fr none' h h5 := (((fr1.trans fr2).fresh fr3 (fun id q => by omega)).trans fr4).trans fr5
  have lmp := m.lt
  have i5 : ArI h h5 p (h.next + 2) h1.next h.next (h.next + 1) (h2.next + 1) L B0 ml [cell] (.slice (some ⟨h2.next, 0, none⟩) 1 1) [cell] 1 (fun id => B0 id ∨ (h.next ≤ id ∧ id < h5.next)) := by
    refine ⟨?_, ?_, ?_, ⟨_, (g3.fr0 fr4).fr0 fr5, ?_⟩, g5, ?_, fun id q => ?_, by omega, ?_, fun id q => .inl q, ⟨.inr (by omega), .inr (by omega), .inr (by omega), .inr (by omega), .inr (by omega)⟩, fun id q => .inr (by have q : id = h2.next := q; omega), fr05.weak⟩
    · exact ((fr3.get g2 (fun q => by omega)).fr0 fr4).fr0 fr5
    · exact ((fr3.get gs2 (fun q => by omega)).fr0 fr4).fr0 fr5
    · exact ((fr3.get gm2 (fun q => by omega)).fr0 fr4).fr0 fr5
    · exact (keysM.set (dl := []) (K := []) (fun x => by simp [mgetL]) cell _ (by simp))
    · exact (show Ow h4 3 1 (.slice (some ⟨h2.next, 0, none⟩) 1 1) 1 ([cell].map (.int .i64)) from by rw [← n3]; exact AM.Ow.whole (n := 1) g4 rfl (by omega)).fr0 fr5
    · have q : id = h2.next := q
      omega
    · exact m.more fr05 fun id q => q
  have hl5 := fr05.hl hl
  have hNd : ∀ b : Int, 0 ≤ b ∧ b < L.flatten.length → ∀ c ∈ nbA L B cell b, 0 ≤ c ∧ c < L.flatten.length := by
    intro b hb c hc
    have hc1 : decide (c ∈ nextL L b) = true := decide_eq_true (List.mem_filter.1 hc).1
    rw [edge_mem f] at hc1
    have := freeP_in (edgeL_facts hc1).2.2.2
    omega
  have hr : 0 ≤ cell ∧ cell < L.flatten.length := freeP_in hf
  have hK := f.k1024
  refine AM.loop_w hp 112 (fun z : Nat × Value × Nat => [(0, pv p), (3, .int .i64 far), (9, pv h1.next), (10, z.2.1), (11, pv z.2.2)])
    (fun z h' => z.1 ≤ L.flatten.length ∧ (z.1 : Int) ≤ far ∧ ∃ C, ArI h h' p (h.next + 2) h1.next h.next (h.next + 1) z.2.2 L B0 ml (lvlA (nbA L B cell) cell z.1).1 z.2.1 (lvlA (nbA L B cell) cell z.1).2 (z.1 + 1) C) (fun z => L.flatten.length + 1 - z.1) (by kernel_rfl) (0, .slice (some ⟨h2.next, 0, none⟩) 1 1, h2.next + 1) ?_ ?_ ?_
  · simp (maxSteps := 1000000) (disch := first | omega | (simp only [AM.DB, List.length_set, List.length_map]; first | done | omega)) only [AM.RB, Nat.reduceAdd, Nat.reduceMul, Nat.reduceEqDiff, reduceCtorEq, b20_RT4]
    first | rfl | skip
  · exact ⟨Nat.zero_le _, by simp only; omega, _, i5⟩
  rintro ⟨k, atv, c11⟩ h6 ρ6 ⟨hk, hkf, C6, i6⟩
  simp only at hk hkf i6 ⊢
  have hl6 := i6.fr.hl hl
  obtain ⟨aa, ac, rfl⟩ := i6.o.form
  have g11 := i6.g11
  have sp6 := fun x => lvlA_spec (nbA L B cell) cell k x
  (repeat' (first | (simp (maxSteps := 1000000) (disch := first | omega | (simp only [AM.DB, List.length_set, List.length_map]; first | done | omega)) only [AM.RB, Nat.reduceAdd, Nat.reduceMul, Nat.reduceEqDiff, reduceCtorEq, b20_RT4, g11]) | refine AM.drawW_loose (id := 13) hp (by kernel_rfl) (by kernel_rfl) ?_ | refine AM.drawW_fine (id := 17) hp (by kernel_rfl) (by kernel_rfl) (by kernel_rfl) ?_ | refine AM.opW_tied (by kernel_rfl) ?_ | refine AM.opW_untied (by kernel_rfl) ?_))
  have alt : (decide ((k : Int) + 1 ≤ far) = true ∧ decide (0 < (((lvlA (nbA L B cell) cell k).2.length : Nat) : Int)) = true) ∨ (((decide ((k : Int) + 1 ≤ far) = false) ∨ (decide ((k : Int) + 1 ≤ far) = true ∧ decide (0 < (((lvlA (nbA L B cell) cell k).2.length : Nat) : Int)) = false)) ∧ ∀ x, x ∈ (lvlA (nbA L B cell) cell k).1 ↔ ∃ j : Nat, (j : Int) ≤ far ∧ Wk (nbA L B cell) cell j x) := by
    by_cases c1 : (k : Int) + 1 ≤ far
    · by_cases c2 : 0 < (((lvlA (nbA L B cell) cell k).2.length : Nat) : Int)
      · exact .inl ⟨decide_eq_true c1, decide_eq_true c2⟩
      · refine .inr ⟨.inr ⟨decide_eq_true c1, decide_eq_false c2⟩, fun x => ?_⟩
        have e : (lvlA (nbA L B cell) cell k).2 = [] := List.length_eq_zero_iff.1 (by omega)
        rw [lvlA_end e far.toNat (by omega) x]
        constructor
        · rintro ⟨j, hj, w⟩; exact ⟨j, by omega, w⟩
        · rintro ⟨j, hj, w⟩; exact ⟨j, by omega, w⟩
    · refine .inr ⟨.inl (decide_eq_false c1), fun x => ?_⟩
      rw [(sp6 x).1]
      constructor
      · rintro ⟨j, hj, w⟩; exact ⟨j, by omega, w⟩
      · rintro ⟨j, hj, w⟩; exact ⟨j, by omega, w⟩
  rcases alt with ⟨c1, c2⟩ | ⟨c, fin⟩
  case' inr =>
    rcases c with c1 | ⟨c1, c2⟩
  case' inr.inl => (repeat' (first | (simp (maxSteps := 1000000) (disch := first | omega | (simp only [AM.DB, List.length_set, List.length_map]; first | done | omega)) only [AM.RB, Nat.reduceAdd, Nat.reduceMul, Nat.reduceEqDiff, reduceCtorEq, b20_RT4, c1]) | refine AM.drawW_loose (id := 13) hp (by kernel_rfl) (by kernel_rfl) ?_ | refine AM.drawW_fine (id := 17) hp (by kernel_rfl) (by kernel_rfl) (by kernel_rfl) ?_ | refine AM.opW_tied (by kernel_rfl) ?_ | refine AM.opW_untied (by kernel_rfl) ?_))
  case' inr.inr => (repeat' (first | (simp (maxSteps := 1000000) (disch := first | omega | (simp only [AM.DB, List.length_set, List.length_map]; first | done | omega)) only [AM.RB, Nat.reduceAdd, Nat.reduceMul, Nat.reduceEqDiff, reduceCtorEq, b20_RT4, c1, c2]) | refine AM.drawW_loose (id := 13) hp (by kernel_rfl) (by kernel_rfl) ?_ | refine AM.drawW_fine (id := 17) hp (by kernel_rfl) (by kernel_rfl) (by kernel_rfl) ?_ | refine AM.opW_tied (by kernel_rfl) ?_ | refine AM.opW_untied (by kernel_rfl) ?_))
  case' inr.inl | inr.inr =>
    obtain ⟨kv, tl, mm⟩ := i6.m.mp
    refine all_w mm f.rows (by omega) hl6 _ fun vA h7 oA fr7 hidA => ?_
    have hl7 := fr7.hl hl6
    obtain ⟨ba, bc, rfl⟩ := oA.form
    have g97 := i6.g9.fr0 fr7
    have gs7 := i6.gs.fr0 fr7
    obtain ⟨dl, gd6, kd⟩ := i6.gd
    have gd7 := gd6.fr0 fr7
    have lA : (allP L.flatten L.flatten.length).length ≤ L.flatten.length := allP_len _ _
    (repeat' (first | (simp (maxSteps := 1000000) (disch := first | omega | (simp only [AM.DB, List.length_set, List.length_map]; first | done | omega)) only [AM.RB, Nat.reduceAdd, Nat.reduceMul, Nat.reduceEqDiff, reduceCtorEq, b20_RT4]) | refine AM.drawW_loose (id := 13) hp (by kernel_rfl) (by kernel_rfl) ?_ | refine AM.drawW_fine (id := 17) hp (by kernel_rfl) (by kernel_rfl) (by kernel_rfl) ?_ | refine AM.opW_tied (by kernel_rfl) ?_ | refine AM.opW_untied (by kernel_rfl) ?_))
    refine AM.loop_w hp 112 (fun z : Nat × Value => [(9, pv h1.next), (18, z.2), (90, .slice ba (allP L.flatten L.flatten.length).length bc), (91, .int .i64 (allP L.flatten L.flatten.length).length), (92, .int .i64 z.1)])
      (fun z h' => z.1 ≤ (allP L.flatten L.flatten.length).length ∧ Ow h' 3 1 z.2 (inK (lvlA (nbA L B cell) cell k).1 ((allP L.flatten L.flatten.length).take z.1)).length ((inK (lvlA (nbA L B cell) cell k).1 ((allP L.flatten L.flatten.length).take z.1)).map (.int .i64)) ∧ Fr none' h7 h' ∧ ∀ id, idOf z.2 id → h7.next ≤ id) (fun z => (allP L.flatten L.flatten.length).length - z.1) (by kernel_rfl) (0, .slice none 0 0) ?_ ?_ ?_
    · simp (maxSteps := 1000000) (disch := first | omega | (simp only [AM.DB, List.length_set, List.length_map]; first | done | omega)) only [AM.RB, Nat.reduceAdd, Nat.reduceMul, Nat.reduceEqDiff, reduceCtorEq, b20_RT4]
      first | rfl | skip
    · exact ⟨Nat.zero_le _, Ow.nil _ _ _, Fr.refl _ _, fun _ t => t.elim⟩
    rintro ⟨t, vo⟩ h8 ρ8 ⟨ht, o8, fr8, hid8⟩
    simp only at ht o8 hid8
    obtain ⟨ca, cc, rfl⟩ := o8.form
    have hl8 := fr8.hl hl7
    have rA := (oA.fr0 fr8).rd
    have g98 := g97.fr0 fr8
    have gs8 := gs7.fr0 fr8
    have gd8 := gd7.fr0 fr8
    (repeat' (first | (simp (maxSteps := 1000000) (disch := first | omega | (simp only [AM.DB, List.length_set, List.length_map]; first | done | omega)) only [AM.RB, Nat.reduceAdd, Nat.reduceMul, Nat.reduceEqDiff, reduceCtorEq, b20_RT4]) | refine AM.drawW_loose (id := 13) hp (by kernel_rfl) (by kernel_rfl) ?_ | refine AM.drawW_fine (id := 17) hp (by kernel_rfl) (by kernel_rfl) (by kernel_rfl) ?_ | refine AM.opW_tied (by kernel_rfl) ?_ | refine AM.opW_untied (by kernel_rfl) ?_))
    refine AM.condV_split (fun htt => ?_) (fun htt => ?_)
    · have htl : t < (allP L.flatten L.flatten.length).length := by omega
      have ks := inK_succ (lvlA (nbA L B cell) cell k).1 htl
      have lk : (inK (lvlA (nbA L B cell) cell k).1 ((allP L.flatten L.flatten.length).take t)).length ≤ t := Nat.le_trans (List.length_filter_le _ _) (by simp; omega)
      generalize hcc : (allP L.flatten L.flatten.length).getD t 0 = c at *
      have kc := kd c
      by_cases hc : c ∈ (lvlA (nbA L B cell) cell k).1
      · rw [decide_eq_true hc] at kc
        rw [if_pos hc] at ks
        (repeat' (first | (simp (maxSteps := 1000000) (disch := first | omega | (simp only [AM.DB, List.length_set, List.length_map]; first | done | omega)) only [AM.RB, Nat.reduceAdd, Nat.reduceMul, Nat.reduceEqDiff, reduceCtorEq, b20_RT4, rA.ia el_22, Rd.ldi rA lk_3, Int.toNat_natCast, hcc, g98, gs8, AM.lookup_enc2 mp_98 gd8, kc]) | refine AM.drawW_loose (id := 13) hp (by kernel_rfl) (by kernel_rfl) ?_ | refine AM.drawW_fine (id := 17) hp (by kernel_rfl) (by kernel_rfl) (by kernel_rfl) ?_ | refine AM.opW_tied (by kernel_rfl) ?_ | refine AM.opW_untied (by kernel_rfl) ?_))
        generalize hE_ : AHeap.alloc h8 _ = h9; obtain ⟨g9, fr9, n9, l9⟩ := AM.new_get hE_; clear hE_
        refine AM.appends_w ap_22 ap_22 (o8.fr0 fr9) (AM.Rd.whole (n := 1) (c := [.int .i64 c]) g9 rfl) rfl (by omega) (AM.fits (by omega) (by omega)) (AM.fits' (by omega)) fun v10 h10 o10 fr10 hid10 => ?_
        have n8 := fr8.next
        (repeat' (first | (simp (maxSteps := 1000000) (disch := first | omega | (simp only [AM.DB, List.length_set, List.length_map]; first | done | omega)) only [AM.RB, Nat.reduceAdd, Nat.reduceMul, Nat.reduceEqDiff, reduceCtorEq, b20_RT4, AM.wrap_i64]) | refine AM.drawW_loose (id := 13) hp (by kernel_rfl) (by kernel_rfl) ?_ | refine AM.drawW_fine (id := 17) hp (by kernel_rfl) (by kernel_rfl) (by kernel_rfl) ?_ | refine AM.opW_tied (by kernel_rfl) ?_ | refine AM.opW_untied (by kernel_rfl) ?_))
        refine ⟨(t + 1, v10), by simp only; omega, ?_, by simp only; omega, ?_, (fr8.trans fr9).fresh fr10 (fun id q => hid8 id q), fun id q => (hid10 id q).elim (hid8 id) (fun q => by omega)⟩
        · simp (maxSteps := 1000000) (disch := first | omega | (simp only [AM.DB, List.length_set, List.length_map]; first | done | omega)) only [AM.RB, Nat.reduceAdd, Nat.reduceMul, Nat.reduceEqDiff, reduceCtorEq, b20_RT4]
          first | rfl | skip
        · simp only
          rw [ks]
          simpa using o10
      · rw [decide_eq_false hc] at kc
        rw [if_neg hc, List.append_nil] at ks
        (repeat' (first | (simp (maxSteps := 1000000) (disch := first | omega | (simp only [AM.DB, List.length_set, List.length_map]; first | done | omega)) only [AM.RB, Nat.reduceAdd, Nat.reduceMul, Nat.reduceEqDiff, reduceCtorEq, b20_RT4, rA.ia el_22, Rd.ldi rA lk_3, Int.toNat_natCast, hcc, g98, gs8, AM.lookup_enc2 mp_98 gd8, kc, AM.wrap_i64]) | refine AM.drawW_loose (id := 13) hp (by kernel_rfl) (by kernel_rfl) ?_ | refine AM.drawW_fine (id := 17) hp (by kernel_rfl) (by kernel_rfl) (by kernel_rfl) ?_ | refine AM.opW_tied (by kernel_rfl) ?_ | refine AM.opW_untied (by kernel_rfl) ?_))
        refine ⟨(t + 1, _), by simp only; omega, ?_, by simp only; omega, ?_, fr8, hid8⟩
        · simp (maxSteps := 1000000) (disch := first | omega | (simp only [AM.DB, List.length_set, List.length_map]; first | done | omega)) only [AM.RB, Nat.reduceAdd, Nat.reduceMul, Nat.reduceEqDiff, reduceCtorEq, b20_RT4]
          first | rfl | skip
        · simp only
          rw [ks]; exact o8
    · obtain rfl : t = (allP L.flatten L.flatten.length).length := by omega
      (repeat' (first | (simp (maxSteps := 1000000) (disch := first | omega | (simp only [AM.DB, List.length_set, List.length_map]; first | done | omega)) only [AM.RB, Nat.reduceAdd, Nat.reduceMul, Nat.reduceEqDiff, reduceCtorEq, b20_RT4]) | refine AM.drawW_loose (id := 13) hp (by kernel_rfl) (by kernel_rfl) ?_ | refine AM.drawW_fine (id := 17) hp (by kernel_rfl) (by kernel_rfl) (by kernel_rfl) ?_ | refine AM.opW_tied (by kernel_rfl) ?_ | refine AM.opW_untied (by kernel_rfl) ?_))
      have fr68 := fr7.trans fr8
      refine hok hf (by omega) _ _ _ o8 ?_ (fun x => ?_) (i6.m.more fr68 fun id q => .inl (i6.cB id q)) (i6.fr.trans fr68.weak)
      · rw [List.take_length]; exact (allP_srt _ _).sublist List.filter_sublist
      · rw [List.take_length]
        unfold inK
        rw [List.mem_filter, allP_in, decide_eq_true_iff, fin x]
        exact ⟨fun q => ⟨q.1.2, q.2⟩, fun q => ⟨⟨freeP_in q.1, q.1⟩, q.2⟩⟩
  have hlen : 0 < (lvlA (nbA L B cell) cell k).2.length := by have := of_decide_eq_true c2; omega
  have hk1 : k < L.flatten.length := by
    obtain ⟨l, h1, h2, h3⟩ := isD.chain (N := nbA L B cell) hr hNd k _ ((sp6 ((lvlA (nbA L B cell) cell k).2.getD 0 0)).2.1 (by
      have e : (lvlA (nbA L B cell) cell k).2.getD 0 0 = (lvlA (nbA L B cell) cell k).2[0] := by simp [List.getD, hlen]
      rw [e]; exact List.getElem_mem hlen))
    have := nodup_len h2 fun z hz => (h3 z hz).1
    omega
  have hAd : ∀ x, x ∈ (lvlA (nbA L B cell) cell k).2 → 0 ≤ x ∧ x < L.flatten.length := fun x hx => Wk.ok (ok := fun z => 0 ≤ z ∧ z < (L.flatten.length : Int)) hr hNd ((sp6 x).2.1 hx).1
  have gd0 := lvlA_good (nbA L B cell) cell k
  have hK0r : ∀ x, x ∈ (lvlA (nbA L B cell) cell k).1 → 0 ≤ x ∧ x < L.flatten.length := fun x hx => by
    obtain ⟨j, _, w⟩ := (sp6 x).1.1 hx
    exact Wk.ok (ok := fun z => 0 ≤ z ∧ z < (L.flatten.length : Int)) hr hNd w
  have eL : lvlA (nbA L B cell) cell (k + 1) = rndA (nbA L B cell) (lvlA (nbA L B cell) cell k).2 ((lvlA (nbA L B cell) cell k).1, []) := rfl
  generalize lvlA (nbA L B cell) cell k = st at *
  obtain ⟨K0, A⟩ := st
  simp only at *
  (repeat' (first | (simp (maxSteps := 1000000) (disch := first | omega | (simp only [AM.DB, List.length_set, List.length_map]; first | done | omega)) only [AM.RB, Nat.reduceAdd, Nat.reduceMul, Nat.reduceEqDiff, reduceCtorEq, b20_RT4, c1, c2]) | refine AM.drawW_loose (id := 13) hp (by kernel_rfl) (by kernel_rfl) ?_ | refine AM.drawW_fine (id := 17) hp (by kernel_rfl) (by kernel_rfl) (by kernel_rfl) ?_ | refine AM.opW_tied (by kernel_rfl) ?_ | refine AM.opW_untied (by kernel_rfl) ?_))
  generalize hE_ : AHeap.alloc h6 _ = h7; obtain ⟨g7, fr7, n7, l7⟩ := AM.new_get hE_; clear hE_
  have i7 : ArI h h7 p (h.next + 2) h1.next h.next (h.next + 1) c11 L B0 ml K0 (.slice aa A.length ac) A (k + 1) (fun id => C6 id ∨ id = h6.next) := by
    obtain ⟨dl, gd6, kd⟩ := i6.gd
    exact i6.step fr7 (fun q => q) (fun q => q) (fun q => q) (fun q => q) (fun _ _ q => q) ⟨dl, gd6.fr0 fr7, kd⟩ (i6.m.more fr7 fun id q => q.elim .inl fun q => .inr (by omega)) (fun id q => .inl q) (i6.fr.trans fr7.weak)
  have lt11 := AM.get_some_lt i6.g11
  have lta := fun id (q : idOf (.slice aa A.length ac) id) => i6.o.lt q
  have new6 := i6.fr.next
  refine AM.loop_w hp 112 (fun z : Nat × Value => [(0, pv p), (3, .int .i64 far), (9, pv h1.next), (11, pv c11), (12, pv h6.next), (53, .slice aa A.length ac), (54, .int .i64 A.length), (55, .int .i64 z.1)])
    (fun z h' => z.1 ≤ A.length ∧ ∃ C, ArI h h' p (h.next + 2) h1.next h.next (h.next + 1) c11 L B0 ml (rndA (nbA L B cell) (A.take z.1) (K0, [])).1 (.slice aa A.length ac) A (k + 1) C ∧ C h6.next ∧ (∀ id, idOf z.2 id → C id) ∧ h'.get h6.next = some (.cells [z.2] 22 false) ∧ Ow h' 3 1 z.2 (rndA (nbA L B cell) (A.take z.1) (K0, [])).2.length ((rndA (nbA L B cell) (A.take z.1) (K0, [])).2.map (.int .i64)) ∧ (∀ id, idOf z.2 id → h6.next + 1 ≤ id) ∧ h7.next ≤ h'.next) (fun z => A.length - z.1) (by kernel_rfl) (0, .slice none 0 0) ?_ ?_ ?_
  · simp (maxSteps := 1000000) (disch := first | omega | (simp only [AM.DB, List.length_set, List.length_map]; first | done | omega)) only [AM.RB, Nat.reduceAdd, Nat.reduceMul, Nat.reduceEqDiff, reduceCtorEq, b20_RT4]
    first | rfl | skip
  · exact ⟨Nat.zero_le _, _, i7, .inr rfl, fun _ q => q.elim, g7, Ow.nil _ _ _, fun _ q => q.elim, Nat.le_refl _⟩
  rintro ⟨i, vn⟩ h8 ρ8 ⟨hi, C8, i8, c12, cvn, g12, o8, new8, nx8⟩
  simp only at hi i8 cvn g12 o8 new8
  have hl8 := i8.fr.hl hl
  obtain ⟨na, nc, rfl⟩ := o8.form
  have r8 := i8.o.rd
  have g98 := i8.g9
  (repeat' (first | (simp (maxSteps := 1000000) (disch := first | omega | (simp only [AM.DB, List.length_set, List.length_map]; first | done | omega)) only [AM.RB, Nat.reduceAdd, Nat.reduceMul, Nat.reduceEqDiff, reduceCtorEq, b20_RT4]) | refine AM.drawW_loose (id := 13) hp (by kernel_rfl) (by kernel_rfl) ?_ | refine AM.drawW_fine (id := 17) hp (by kernel_rfl) (by kernel_rfl) (by kernel_rfl) ?_ | refine AM.opW_tied (by kernel_rfl) ?_ | refine AM.opW_untied (by kernel_rfl) ?_))
  refine AM.condV_split (fun hit => ?_) (fun hit => ?_)
  case' refine_2 =>
    obtain rfl : i = A.length := by omega
    have eE : rndA (nbA L B cell) (A.take A.length) (K0, []) = lvlA (nbA L B cell) cell (k + 1) := by rw [List.take_length, ← eL]
    rw [eE] at i8 cvn g12 o8 new8
    have c1' := of_decide_eq_true c1
    have ic := i8.c
    have g118 := i8.g11
    (repeat' (first | (simp (maxSteps := 1000000) (disch := first | omega | (simp only [AM.DB, List.length_set, List.length_map]; first | done | omega)) only [AM.RB, Nat.reduceAdd, Nat.reduceMul, Nat.reduceEqDiff, reduceCtorEq, b20_RT4, g12, g118]) | refine AM.drawW_loose (id := 13) hp (by kernel_rfl) (by kernel_rfl) ?_ | refine AM.drawW_fine (id := 17) hp (by kernel_rfl) (by kernel_rfl) (by kernel_rfl) ?_ | refine AM.opW_tied (by kernel_rfl) ?_ | refine AM.opW_untied (by kernel_rfl) ?_))
    generalize hE_ : AHeap.put (AHeap.alloc h8 _) _ _ = h9; obtain ⟨g9, fr9, n9, l9⟩ := AM.box_get hE_ (by omega); clear hE_
    generalize hE_ : AHeap.put h9 _ _ = h10; obtain ⟨g10, fr10, n10, l10⟩ := AM.put_get hE_ (by omega); clear hE_
    have ew : IntKind.i64.wrap ((k : Int) + 1 + 1) = k + 1 + 1 := AM.wrap_i64 (by omega) (by omega)
    rw [ew] at g10
    have lt8 := fun id (q : id < h8.next) => show ¬ (id = h8.next) from by omega
    have m8 := i8.fr.next
    have k9 := i8.g9.fr0 fr9
    have ks := i8.gs.fr0 fr9
    have km := i8.gm.fr0 fr9
    obtain ⟨dl, gd8, kd⟩ := i8.gd
    have fr810 : Fr none' h8 h10 := fr9.fresh fr10 (fun id q => by have q : id = h8.next := q; omega)
    refine ⟨(k + 1, .slice na (lvlA (nbA L B cell) cell (k + 1)).2.length nc, h8.next), by simp only; omega, ⟨rfl, rfl⟩, by simp only; omega, by simp only; omega, fun id => C8 id ∨ id = h8.next, ⟨i8.g9.fr0 fr810, i8.gs.fr0 fr810, i8.gm.fr0 fr810, ⟨dl, gd8.fr0 fr810, kd⟩, ?_, ?_, fun id q => ?_, ?_, ?_, fun id q => .inl (i8.cB id q), ⟨.inl i8.cO.1, .inl i8.cO.2.1, .inl i8.cO.2.2.1, .inl i8.cO.2.2.2.1, .inr rfl⟩, fun id q => .inl (cvn id q), i8.fr.trans fr810.weak⟩⟩
    · simp only
      rw [g10]; rfl
    · exact o8.fr0 fr810
    · have := new8 id q
      omega
    · show h.next + 4 ≤ h8.next
      omega
    · exact i8.m.more fr810 fun id q => q.elim .inl fun q => .inr (by have q : id = h8.next := q; omega)
  have hil : i < A.length := by omega
  have rs := rndA_succ (nbA L B cell) hil (K0, [])
  have haA : A.getD i 0 ∈ A := by
    have e : A.getD i 0 = A[i] := by simp [List.getD, hil]
    rw [e]; exact List.getElem_mem hil
  have had := hAd _ haA
  obtain ⟨a, ha⟩ : ∃ a, A.getD i 0 = a := ⟨_, rfl⟩
  rw [ha] at rs had
  have hw8 := i8.fr.get hw hgp
  have low8 := i8.fr.low
  (repeat' (first | (simp (maxSteps := 1000000) (disch := first | omega | (simp only [AM.DB, List.length_set, List.length_map]; first | done | omega)) only [AM.RB, Nat.reduceAdd, Nat.reduceMul, Nat.reduceEqDiff, reduceCtorEq, b20_RT4, r8.ia el_22, Rd.ldi r8 lk_3, Int.toNat_natCast, ha, g98]) | refine AM.drawW_loose (id := 13) hp (by kernel_rfl) (by kernel_rfl) ?_ | refine AM.drawW_fine (id := 17) hp (by kernel_rfl) (by kernel_rfl) (by kernel_rfl) ?_ | refine AM.opW_tied (by kernel_rfl) ?_ | refine AM.opW_untied (by kernel_rfl) ?_))
  refine nextK_w i8.m f hw8 (by omega) hl8 a fun vN h9 m9 oN fr9 hidN => ?_
  obtain ⟨ka, kc, rfl⟩ := oN.form
  have hl9 := fr9.hl hl8
  (repeat' (first | (simp (maxSteps := 1000000) (disch := first | omega | (simp only [AM.DB, List.length_set, List.length_map]; first | done | omega)) only [AM.RB, Nat.reduceAdd, Nat.reduceMul, Nat.reduceEqDiff, reduceCtorEq, b20_RT4]) | refine AM.drawW_loose (id := 13) hp (by kernel_rfl) (by kernel_rfl) ?_ | refine AM.drawW_fine (id := 17) hp (by kernel_rfl) (by kernel_rfl) (by kernel_rfl) ?_ | refine AM.opW_tied (by kernel_rfl) ?_ | refine AM.opW_untied (by kernel_rfl) ?_))
  refine sfree_w fun h10 gA gB fr10 n10 l10 => ?_
  (repeat' (first | (simp (maxSteps := 1000000) (disch := first | omega | (simp only [AM.DB, List.length_set, List.length_map]; first | done | omega)) only [AM.RB, Nat.reduceAdd, Nat.reduceMul, Nat.reduceEqDiff, reduceCtorEq, b20_RT4]) | refine AM.drawW_loose (id := 13) hp (by kernel_rfl) (by kernel_rfl) ?_ | refine AM.drawW_fine (id := 17) hp (by kernel_rfl) (by kernel_rfl) (by kernel_rfl) ?_ | refine AM.opW_tied (by kernel_rfl) ?_ | refine AM.opW_untied (by kernel_rfl) ?_))
  have g99 := fr9.get g98 (show ¬ h1.next = p by have := m.lt; omega)
  have lt98 := AM.get_some_lt g98
  have spN : h.next + 2 < h8.next := AM.get_some_lt i8.gs
  refine ⟨AM.looseOk_by [(0, [0, 4])] (by kernel_rfl) ?_, ?_⟩
  · simp (maxSteps := 1000000) (disch := first | omega | (simp only [AM.DB, List.length_set, List.length_map]; first | done | omega)) only [AM.RB, Nat.reduceAdd, Nat.reduceMul, Nat.reduceEqDiff, reduceCtorEq, b20_RT4]
    (repeat' apply And.intro) <;> (first | (refine AM.stable_len _ _ _ _ _ _ (fun _ => ?_); (simp (maxSteps := 1000000) (disch := first | omega | (simp only [AM.DB, List.length_set, List.length_map]; first | done | omega)) only [AM.RB, Nat.reduceAdd, Nat.reduceMul, Nat.reduceEqDiff, reduceCtorEq, b20_RT4, g98, g99])) | (refine AM.stable_load _ _ _ _ _ _ ?_; (first | (simp (maxSteps := 1000000) (disch := first | omega | (simp only [AM.DB, List.length_set, List.length_map]; first | done | omega)) only [AM.RB, Nat.reduceAdd, Nat.reduceMul, Nat.reduceEqDiff, reduceCtorEq, b20_RT4, g98, g99]) | skip); (first | (refine AM.stabL_int (by omega) ?_; (simp (maxSteps := 1000000) (disch := first | omega | (simp only [AM.DB, List.length_set, List.length_map]; first | done | omega)) only [AM.RB, Nat.reduceAdd, Nat.reduceMul, Nat.reduceEqDiff, reduceCtorEq, b20_RT4, g98, g99])) | (refine AM.stabL_ptr (by omega) (by omega) ?_; (simp (maxSteps := 1000000) (disch := first | omega | (simp only [AM.DB, List.length_set, List.length_map]; first | done | omega)) only [AM.RB, Nat.reduceAdd, Nat.reduceMul, Nat.reduceEqDiff, reduceCtorEq, b20_RT4, g98, g99])) | (refine AM.stabL_string (by omega) ?_; (simp (maxSteps := 1000000) (disch := first | omega | (simp only [AM.DB, List.length_set, List.length_map]; first | done | omega)) only [AM.RB, Nat.reduceAdd, Nat.reduceMul, Nat.reduceEqDiff, reduceCtorEq, b20_RT4, g98, g99])) | (refine AM.stabL_bool (by omega) ?_; (simp (maxSteps := 1000000) (disch := first | omega | (simp only [AM.DB, List.length_set, List.length_map]; first | done | omega)) only [AM.RB, Nat.reduceAdd, Nat.reduceMul, Nat.reduceEqDiff, reduceCtorEq, b20_RT4, g98, g99])))))
  have lp := i8.m.lt
  have pn : p < h.next := m.lt
  have fr810 : Fr (fun id => id = p) h8 h10 := fr9.trans fr10.weak
  have i10 : ArI h h10 p (h.next + 2) h1.next h.next (h.next + 1) c11 L B0 ml (rndA (nbA L B cell) (A.take i) (K0, [])).1 (.slice aa A.length ac) A (k + 1) (fun id => C8 id ∨ id = h9.next ∨ id = h9.next + 1) := by
    obtain ⟨dl, gd8, kd⟩ := i8.gd
    have ic := i8.c
    exact i8.step fr810 (by omega) (by omega) (by omega) (by omega) (fun id q => by have := i8.new id q; omega) ⟨dl, fr810.get gd8 (by omega), kd⟩ (m9.more fr10 fun id q => q.elim .inl fun q => .inr (by omega)) (fun id q => .inl q) (i8.fr.trans fr810)
  have g1210 := fr810.get g12 (show ¬ h6.next = p by omega)
  have o10 := o8.fr fr810 (fun id q q2 => by have := new8 id q; omega)
  have rN := oN.rd.fr0 fr10
  have hl10 := fr10.hl hl9
  have n9 := fr9.next
  have lt12 := AM.get_some_lt g12
  generalize hst : rndA (nbA L B cell) (A.take i) (K0, []) = st at *
  let core : Nat → (Nat → Prop) → AHeap → Prop := fun t S h' => ∃ vn', h'.get h6.next = some (.cells [vn'] 22 false) ∧ (∃ dl, h'.get (h.next + 1) = some (.map (encM dl)) ∧ keysM dl (visA ((nbA L B cell a).take t) st).1) ∧
    Ow h' 3 1 vn' (visA ((nbA L B cell a).take t) st).2.length ((visA ((nbA L B cell a).take t) st).2.map (.int .i64)) ∧ (∀ id, idOf vn' id → S id ∨ idOf (.slice na st.2.length nc) id) ∧ (∀ id, S id → h10.next ≤ id) ∧
    Fr (fun id => id = h.next + 1 ∨ id = h6.next ∨ idOf (.slice na st.2.length nc) id) h10 h'
  refine AM.range_iter hp (R := fun id => id = h9.next + 1 ∨ id = h9.next ∨ id = h.next + 2 ∨ id = h.next ∨ idOf (.slice ka (nextL L a).length kc) id) (xs := (nbA L B cell a).map fun c => [.int .i64 c]) (AM.entersV_of Tryd.func82 rfl) (by kernel_rfl) (by kernel_rfl) ?_ ?_ hl10 ?_
    (fun t => AM.JK h10.next (core t)) (fun _ _ _ => False) ?_ (fun _ => AM.Stab.no) (fun env x => (env.set 64 (x.getD 0 undef)).set 15 (x.getD 0 undef)) ?_ ?_ ?_ ?_ ?_
  · intro y hy; obtain ⟨q, _, rfl⟩ := List.mem_map.1 hy; rfl
  · rintro id (rfl | rfl | rfl | rfl | q)
    · omega
    · omega
    · omega
    · omega
    · exact rN.lt q
  · exact free1_w gB gA i10.gs i10.gm om rN (by have := nextL_len f a; omega)
  · refine fun t => AM.JK.stab ?_
    rintro S x y hB ⟨vn', q1, ⟨dl, q2, q3⟩, q4, q5, q6, q7⟩ hS hBl hn' hl'
    have lto2 : h.next + 1 < h10.next := by omega
    have ltv : ∀ id, idOf (.slice na st.2.length nc) id → id < h10.next := fun id q => o10.lt q
    refine ⟨vn', by rw [hBl _ (by omega)]; exact q1, ⟨dl, by rw [hBl _ lto2]; exact q2, q3⟩, q4.same (fun id q => ?_) hl', q5, q6, Fr.ext2 q7 hBl hn' hl'⟩
    rcases q5 id q with q | q
    · exact hS id q
    · exact hBl id (ltv id q)
  · intro y hy h11
    obtain ⟨q, _, rfl⟩ := List.mem_map.1 hy
    simp (maxSteps := 1000000) (disch := first | omega | (simp only [AM.DB, List.length_set, List.length_map]; first | done | omega)) only [AM.RB, Nat.reduceAdd, Nat.reduceMul, Nat.reduceEqDiff, reduceCtorEq, b20_RT4]
  · intro o
    have fr11 : Fr none' h10 (h10.alloc o) := (Fr.refl _ _).alloc _
    obtain ⟨dl, gd10, kd⟩ := i10.gd
    exact ⟨Nat.le_succ _, fun id e => by omega, none', ⟨_, g1210.fr0 fr11, ⟨dl, gd10.fr0 fr11, kd⟩, o10.fr0 fr11, fun id q => .inr q, fun id q => q.elim, fr11.weak⟩, fun id q => q.elim⟩
  · rintro t y A1 h11 hy ⟨hB, hA, S, ⟨vn', q1, ⟨dl, q2, q3⟩, q4, q5, q6, q7⟩, hS⟩ hA1 hL hlow hR
    rw [List.getElem?_map] at hy
    obtain ⟨b, hb, rfl⟩ := Option.map_eq_some_iff.1 hy
    obtain ⟨va, vc, rfl⟩ := q4.form
    have kb := q3 b
    have htl : t < (nbA L B cell a).length := (List.getElem?_eq_some_iff.1 hb).1
    have hbt : (nbA L B cell a).getD t 0 = b := by simp [List.getD, hb]
    have vs := visA_succ htl st
    rw [hbt] at vs
    have lt9 := AM.get_some_lt i6.g9
    have lts := AM.get_some_lt i6.gs
    have u9 := q7.get i10.g9 (fun q => by rcases q with q | q | q; omega; omega; have := new8 _ q; omega)
    have us := q7.get i10.gs (fun q => by rcases q with q | q | q; omega; omega; have := new8 _ q; omega)
    have u11 := q7.get i10.g11 (fun q => by rcases q with q | q | q; have := i6.c; omega; omega; have := new8 _ q; omega)
    have lw11 : h11.low ≤ h.next + 1 := by have := i10.fr.low; omega
    by_cases hk' : b ∈ (visA ((nbA L B cell a).take t) st).1
    · rw [decide_eq_true hk'] at kb
      have se : stepA (visA ((nbA L B cell a).take t) st) b = visA ((nbA L B cell a).take t) st := if_pos hk'
      rw [se] at vs
      (repeat' (first | (simp (maxSteps := 1000000) (disch := first | omega | (simp only [AM.DB, List.length_set, List.length_map]; first | done | omega)) only [AM.RB, Nat.reduceAdd, Nat.reduceMul, Nat.reduceEqDiff, reduceCtorEq, b20_RT4, u9, us, AM.lookup_enc2 mp_98 q2, kb]) | refine AM.drawW_loose (id := 13) hp (by kernel_rfl) (by kernel_rfl) ?_ | refine AM.drawW_fine (id := 17) hp (by kernel_rfl) (by kernel_rfl) (by kernel_rfl) ?_ | refine AM.opW_tied (by kernel_rfl) ?_ | refine AM.opW_untied (by kernel_rfl) ?_))
      refine ⟨Nat.le_refl _, fun _ _ _ => trivial, hB, hA, S, ⟨_, q1, ⟨dl, q2, by rw [vs]; exact q3⟩, by rw [vs]; exact q4, q5, q6, q7⟩, hS⟩
    · rw [decide_eq_false hk'] at kb
      have se : stepA (visA ((nbA L B cell a).take t) st) b = ((visA ((nbA L B cell a).take t) st).1 ++ [b], (visA ((nbA L B cell a).take t) st).2 ++ [b]) := if_neg hk'
      rw [se] at vs
      have ltq1 := AM.get_some_lt q1
      (repeat' (first | (simp (maxSteps := 1000000) (disch := first | omega | (simp only [AM.DB, List.length_set, List.length_map]; first | done | omega)) only [AM.RB, Nat.reduceAdd, Nat.reduceMul, Nat.reduceEqDiff, reduceCtorEq, b20_RT4, u9, us, u11, q1, AM.lookup_enc2 mp_98 q2, kb, AM.update_enc mp_98 q2 lw11]) | refine AM.drawW_loose (id := 13) hp (by kernel_rfl) (by kernel_rfl) ?_ | refine AM.drawW_fine (id := 17) hp (by kernel_rfl) (by kernel_rfl) (by kernel_rfl) ?_ | refine AM.opW_tied (by kernel_rfl) ?_ | refine AM.opW_untied (by kernel_rfl) ?_))
      generalize hE_ : AHeap.put h11 _ _ = h12; obtain ⟨g12, fr12, n12, l12⟩ := AM.put_get hE_ (by omega); clear hE_
      (repeat' (first | (simp (maxSteps := 1000000) (disch := first | omega | (simp only [AM.DB, List.length_set, List.length_map]; first | done | omega)) only [AM.RB, Nat.reduceAdd, Nat.reduceMul, Nat.reduceEqDiff, reduceCtorEq, b20_RT4]) | refine AM.drawW_loose (id := 13) hp (by kernel_rfl) (by kernel_rfl) ?_ | refine AM.drawW_fine (id := 17) hp (by kernel_rfl) (by kernel_rfl) (by kernel_rfl) ?_ | refine AM.opW_tied (by kernel_rfl) ?_ | refine AM.opW_untied (by kernel_rfl) ?_))
      have kv1 : ∀ id, idOf (.slice va (visA ((nbA L B cell a).take t) st).2.length vc) id → ¬ (id = h.next + 1) ∧ ¬ (id = h6.next) ∧ id < h11.next := fun id q => by
        have := q4.lt q
        rcases q5 id q with q | q
        · have := q6 id q; omega
        · have := new8 id q; omega
      have q412 := q4.fr fr12 (fun id q q2 => (kv1 id q).1 q2)
      have q112 := fr12.get q1 (show ¬ h6.next = h.next + 1 by omega)
      have low12 : h12.low ≤ h12.next := by have := i10.fr.low; omega
      generalize hE_ : AHeap.alloc h12 _ = h13; obtain ⟨g13, fr13, n13, l13⟩ := AM.new_get hE_; clear hE_
      have gdA : goodA (visA ((nbA L B cell a).take t) st) := visA_good (by rw [← hst]; exact rndA_good _ ⟨gd0.1, Nat.zero_le _⟩)
      have hRa : ∀ x ∈ (visA ((nbA L B cell a).take t) st).1, 0 ≤ x ∧ x < L.flatten.length := fun x hx => by
        rcases visA_mem.1.1 hx with hx | hx
        · rw [← hst] at hx
          rcases (rndA_mem _).1.1 hx with hx | ⟨c, hc, hx⟩
          · exact hK0r x hx
          · exact hNd c (hAd c (List.take_subset _ _ hc)) x hx
        · exact hNd a had x (List.take_subset _ _ hx)
      have lenA := nodup_len gdA.1 hRa
      have lenB := gdA.2
      simp only [n12] at g13
      refine AM.appends_w ap_22 ap_22 (q412.fr0 fr13) (AM.Rd.whole (n := 1) (c := [.int .i64 b]) g13 rfl) rfl (by omega) (AM.fits (by omega) (by omega)) (AM.fits' (by omega)) fun v14 h14 o14 fr14 hid14 => ?_
      have q114 := fr14.get (q112.fr0 fr13) (fun q => (kv1 _ q).2.1 rfl)
      obtain ⟨wa, wc, rfl⟩ := o14.form
      have lt14 := AM.get_some_lt q114
      have low14 : h14.low ≤ h6.next := by have := fr14.low; have := i10.fr.low; omega
      have q214 := fr14.get (g12.fr0 fr13) (fun q => (kv1 _ q).1 rfl)
      (repeat' (first | (simp (maxSteps := 1000000) (disch := first | omega | (simp only [AM.DB, List.length_set, List.length_map]; first | done | omega)) only [AM.RB, Nat.reduceAdd, Nat.reduceMul, Nat.reduceEqDiff, reduceCtorEq, b20_RT4, q114]) | refine AM.drawW_loose (id := 13) hp (by kernel_rfl) (by kernel_rfl) ?_ | refine AM.drawW_fine (id := 17) hp (by kernel_rfl) (by kernel_rfl) (by kernel_rfl) ?_ | refine AM.opW_tied (by kernel_rfl) ?_ | refine AM.opW_untied (by kernel_rfl) ?_))
      generalize hE_ : AHeap.put h14 _ _ = h15; obtain ⟨g15, fr15, n15, l15⟩ := AM.put_get hE_ (by omega); clear hE_
      (repeat' (first | (simp (maxSteps := 1000000) (disch := first | omega | (simp only [AM.DB, List.length_set, List.length_map]; first | done | omega)) only [AM.RB, Nat.reduceAdd, Nat.reduceMul, Nat.reduceEqDiff, reduceCtorEq, b20_RT4]) | refine AM.drawW_loose (id := 13) hp (by kernel_rfl) (by kernel_rfl) ?_ | refine AM.drawW_fine (id := 17) hp (by kernel_rfl) (by kernel_rfl) (by kernel_rfl) ?_ | refine AM.opW_tied (by kernel_rfl) ?_ | refine AM.opW_untied (by kernel_rfl) ?_))
      have n14 := fr14.next
      have s14 : ∀ id, idOf (.slice wa ((visA ((nbA L B cell a).take t) st).2.length + 1) wc) id → ¬ (id = h6.next) ∧ (idOf (.slice va (visA ((nbA L B cell a).take t) st).2.length vc) id ∨ h11.next ≤ id) := fun id q => by
        rcases hid14 id q with q | q
        · exact ⟨(kv1 id q).2.1, .inl q⟩
        · exact ⟨by omega, .inr (by omega)⟩
      have fr1115 : Fr (fun id => id = h.next + 1 ∨ id = h6.next ∨ idOf (.slice va (visA ((nbA L B cell a).take t) st).2.length vc) id) h11 h15 := (((fr12.mono fun id _ q => .inl q).trans fr13.weak).trans (fr14.mono fun id _ q => .inr (.inr q))).trans (fr15.mono fun id _ q => .inr (.inl q))
      have nx15 := fr1115.next
      have new12 := i10.c
      have ltn : ∀ id, idOf (.slice na st.2.length nc) id → h6.next + 1 ≤ id ∧ id < h8.next := fun id q => ⟨new8 id q, o8.lt q⟩
      have hAl : ∀ id, A1 id → h10.next ≤ id := hA
      have o15 := o14.fr fr15 (fun id q => (s14 id q).1)
      have eL2 : (visA ((nbA L B cell a).take (t + 1)) st).2 = (visA ((nbA L B cell a).take t) st).2 ++ [b] := by rw [vs]
      refine ⟨by omega, by rw [← l15]; exact fr1115.low, fun id hid q => fr1115.old id hid fun q2 => ?_, by omega, hA, fun id => S id ∨ (idOf (.slice wa ((visA ((nbA L B cell a).take t) st).2.length + 1) wc) id ∧ h11.next ≤ id), ⟨_, g15, ⟨_, fr15.get q214 (fun q => by omega), ?_⟩, ?_, fun id q => ?_, fun id q => ?_, q7.then fr1115 (fun id hlt q => ?_)⟩, fun id q => ?_⟩
      · have hS6 : S id → h10.next ≤ id := q6 id
        have hSA : S id → ¬ A1 id := fun q => (hS id q).2
        rcases q2 with q2 | q2 | q2
        · rcases q with q | q | q | q | q | q
          · have := hAl id q; omega
          · omega
          · omega
          · omega
          · omega
          · have := hidN id q; omega
        · rcases q with q | q | q | q | q | q
          · have := hAl id q; omega
          · omega
          · omega
          · omega
          · omega
          · have := hidN id q; omega
        · rcases q5 id q2 with q2 | q2
          · rcases q with q | q | q | q | q | q
            · exact hSA q2 q
            · have := hS6 q2; omega
            · have := hS6 q2; omega
            · have := hS6 q2; omega
            · have := hS6 q2; omega
            · have := hS6 q2; have := oN.lt q; omega
          · have := ltn id q2
            rcases q with q | q | q | q | q | q
            · have := hAl id q; omega
            · omega
            · omega
            · omega
            · omega
            · have := hidN id q; omega
      · rw [vs]; exact q3.set b _ hk'
      · rw [eL2]; simpa using o15
      · rcases s14 id q with ⟨_, t1 | t1⟩
        · rcases q5 id t1 with t1 | t1
          · exact .inl (.inl t1)
          · exact .inr t1
        · exact .inl (.inr ⟨q, t1⟩)
      · rcases q with q | q
        · exact q6 id q
        · have := q.2; omega
      · rcases q with q | q | q
        · exact .inl q
        · exact .inr (.inl q)
        · rcases q5 id q with q | q
          · have := q6 id q; omega
          · exact .inr (.inr q)
      · rcases q with q | q
        · have := hS id q; exact ⟨by omega, this.2⟩
        · have l1 := o15.lt q.1
          exact ⟨l1, fun e => by have := (hA1 id e).2; have := q.2; omega⟩
  · rintro A1 h11 ⟨hB, hA, S, ⟨vn', q1, ⟨dl, q2, q3⟩, q4, q5, q6, q7⟩, hS⟩ hA1 hn11 hl11
    rw [List.length_map, List.take_length] at q3 q4
    obtain ⟨va, vc, rfl⟩ := q4.form
    rw [← rs] at q1 q3 q4 q5
    have lenA0 : K0.length ≤ L.flatten.length := nodup_len gd0.1 hK0r
    have lenA1 : A.length ≤ K0.length := gd0.2
    have s8 : ∀ id, idOf (.slice na st.2.length nc) id → h6.next + 1 ≤ id := new8
    have nn : ∀ id, idOf (.slice va (rndA (nbA L B cell) (A.take (i + 1)) (K0, [])).2.length vc) id → h6.next + 1 ≤ id := fun id q => by
      rcases q5 id q with q | q
      · have := q6 id q; omega
      · exact s8 id q
    have ic := i10.c
    have ew : IntKind.i64.wrap ((i : Int) + 1) = i + 1 := AM.wrap_i64 (by omega) (by omega)
    (repeat' (first | (simp (maxSteps := 1000000) (disch := first | omega | (simp only [AM.DB, List.length_set, List.length_map]; first | done | omega)) only [AM.RB, Nat.reduceAdd, Nat.reduceMul, Nat.reduceEqDiff, reduceCtorEq, b20_RT4, ew]) | refine AM.drawW_loose (id := 13) hp (by kernel_rfl) (by kernel_rfl) ?_ | refine AM.drawW_fine (id := 17) hp (by kernel_rfl) (by kernel_rfl) (by kernel_rfl) ?_ | refine AM.opW_tied (by kernel_rfl) ?_ | refine AM.opW_untied (by kernel_rfl) ?_))
    refine ⟨(i + 1, _), by simp only; omega, ?_, by simp only; omega, fun id => (C8 id ∨ id = h9.next ∨ id = h9.next + 1) ∨ idOf (.slice va (rndA (nbA L B cell) (A.take (i + 1)) (K0, [])).2.length vc) id, ?_, .inl (.inl c12), fun id q => .inr q, q1, q4, nn, by omega⟩
    · simp (maxSteps := 1000000) (disch := first | omega | (simp only [AM.DB, List.length_set, List.length_map]; first | done | omega)) only [AM.RB, Nat.reduceAdd, Nat.reduceMul, Nat.reduceEqDiff, reduceCtorEq, b20_RT4]
      first | rfl | skip
    · have hd : ∃ dl, h11.get (h.next + 1) = some (.map (encM dl)) ∧ keysM dl (rndA (nbA L B cell) (A.take (i + 1)) (K0, [])).1 := ⟨dl, q2, q3⟩
      have lti8 : ∀ id, C8 id → id < h8.next := i8.m.2
      refine i10.step q7 ?_ ?_ ?_ ?_ (fun id q q2 => ?_) hd ?_ (fun id q => .inl q) (i10.fr.then q7 fun id hlt q => ?_)
      · rintro (q | q | q)
        · omega
        · omega
        · have := s8 _ q; omega
      · rintro (q | q | q)
        · omega
        · omega
        · have := s8 _ q; omega
      · rintro (q | q | q)
        · omega
        · omega
        · have := s8 _ q; omega
      · rintro (q | q | q)
        · omega
        · omega
        · have := s8 _ q; omega
      · have := lta id q
        have := i8.new id q
        rcases q2 with q2 | q2 | q2
        · omega
        · omega
        · have := s8 _ q2; omega
      · refine i10.m.frC q7 (fun id q => ?_) (fun id q => ?_)
        · rcases q with q | q | q
          · rw [q]; exact .inl (i8.cO.2.2.2.1)
          · rw [q]; exact .inl c12
          · exact .inl (cvn id q)
        · rcases q with q | q
          · exact .inl q
          · rcases q5 id q with q3 | q3
            · exact .inr ⟨q6 id q3, q4.lt q⟩
            · exact .inl (.inl (cvn id q3))
      · rcases q with q | q | q
        · omega
        · omega
        · have := s8 _ q; omega
  · exact fun _ _ _ q => q.elim
end Go.Proofs.YtgdcbjpookldoaaDoor

namespace Go.Proofs.YtgdcbjpookldoaaDoor
open Go.AM
set_option maxRecDepth 8000
theorem b16_RT7 : type_of% (And.intro (@Option.isNone_none.{0}) (And.intro (@Option.isNone_some.{0}) (And.intro (@AM.bin_add) (And.intro (@AM.bin_eql) (And.intro (@AM.bin_lss) (And.intro (@AM.bin_neq) (And.intro (AM.bin_pnil ul_23) (And.intro (@AM.bin_sub) (And.intro (@AM.iaO_ok) (And.intro (AM.ia_slice el_22) (And.intro (@AM.ldO_agg) (And.intro (@AM.ldO_one) (And.intro (@AM.ld_ptr) (And.intro (AM.len_slice ul_22) (And.intro (@lk_3) (And.intro (@AM.op_binOp) (And.intro (@AM.op_call) (And.intro (@AM.op_indexAddr) (And.intro (@AM.op_len) (And.intro (@AM.op_load) (And.intro (@AM.op_slice) (And.intro (@AM.op_unOp) (And.intro (@AM.un_neg) (@AM.un_not)))))))))))))))))))))))) := And.intro (@Option.isNone_none.{0}) (And.intro (@Option.isNone_some.{0}) (And.intro (@AM.bin_add) (And.intro (@AM.bin_eql) (And.intro (@AM.bin_lss) (And.intro (@AM.bin_neq) (And.intro (AM.bin_pnil ul_23) (And.intro (@AM.bin_sub) (And.intro (@AM.iaO_ok) (And.intro (AM.ia_slice el_22) (And.intro (@AM.ldO_agg) (And.intro (@AM.ldO_one) (And.intro (@AM.ld_ptr) (And.intro (AM.len_slice ul_22) (And.intro (@lk_3) (And.intro (@AM.op_binOp) (And.intro (@AM.op_call) (And.intro (@AM.op_indexAddr) (And.intro (@AM.op_len) (And.intro (@AM.op_load) (And.intro (@AM.op_slice) (And.intro (@AM.op_unOp) (And.intro (@AM.un_neg) (@AM.un_not)))))))))))))))))))))))


/-! ### Whether cells are a route -/
def okS (L : List (List UInt8)) (B X : List Int) (i : Nat) : Bool := edgeL L (X.getD i 0) (X.getD (i + 1) 0) && !decide (X.getD (i + 1) 0 ∈ B)
def okN (L : List (List UInt8)) (B X : List Int) (k : Nat) : Bool := (List.range k).all (okS L B X)
theorem okN_succ (L : List (List UInt8)) (B X : List Int) (k : Nat) : okN L B X (k + 1) = (okN L B X k && okS L B X k) := by
  unfold okN; rw [List.range_succ, List.all_append]; simp
theorem okN_bad {L : List (List UInt8)} {B X : List Int} {k i : Nat} (h : okS L B X i = false) (hi : i < k) : okN L B X k = false := by
  unfold okN
  rw [Bool.eq_false_iff]
  intro q
  have := List.all_eq_true.1 q i (List.mem_range.2 hi)
  rw [h] at this; cases this
/-- What the program says of cells. -/
def chkR (L : List (List UInt8)) (B X : List Int) : Int := if X.length = 0 then 2 else if freeP L.flatten (X.getD 0 0) = true ∧ freeP L.flatten (X.getD (X.length - 1) 0) = true then (if okN L B X (X.length - 1) = true then 0 else 40) else 2

set_option maxHeartbeats 4000000 in
theorem check_w {h : AHeap} {p : Nat} {L : List (List UInt8)} {B0 : Nat → Prop} (m : Mk h p L B0) (f : Fit L) (hw : h.get GW = some (.cells waysC 123 false)) (hgl : GW < h.low) (hgp : ¬ GW = p) (hl : h.low ≤ h.next) {s : Value} {n : Nat} {X : List Int} (hX : Rd h 3 1 s n (X.map (.int .i64))) (hpX : ∀ id, idOf s id → ¬ id = p) {sb : Value} {nb : Nat} {B : List Int} (hB : Rd h 3 1 sb nb (B.map (.int .i64))) (hpB : ∀ id, idOf sb id → ¬ id = p) (hn : n ≤ 4000000) (hnb : nb ≤ 4000000) {Q : VQ}
    (hq : ∀ h', Mk h' p L B0 → Fr (fun id => id = p) h h' → Q (.int .i64 (chkR L B X)) h') : W 16 [pv p, s, sb] h Q := by
  have hlen : X.length = n := by have := hX.length; rw [List.length_map] at this; omega
  have d00 : decide ((0 : Int) = 0) = true := rfl
  have d20 : decide ((2 : Int) = 0) = false := rfl
  unfold chkR at hq
  rw [hlen] at hq
  obtain ⟨xb, xc, rfl⟩ := hB.form
  by_cases hz : n = 0
  · subst hz
    rw [if_pos rfl] at hq
    obtain ⟨xa, xk, rfl⟩ := hX.form
    refine AM.enter hp (fn := Tryd.f16) (rs := [.tmp 6]) (nt := 51) (by kernel_rfl) Tryd.func16 rfl rfl rfl (by kernel_rfl) ?_
    (repeat' (first | (simp (maxSteps := 1000000) (disch := first | omega | (simp only [AM.DB, List.length_set, List.length_map]; first | done | omega)) only [AM.RB, Nat.reduceAdd, Nat.reduceMul, Nat.reduceEqDiff, reduceCtorEq, b16_RT7, d00]) | refine AM.drawW_fine hp (by kernel_rfl) (by kernel_rfl) (by kernel_rfl) ?_ | refine AM.opW_tied (by kernel_rfl) ?_ | refine AM.opW_untied (by kernel_rfl) ?_))
    exact hq h m (Fr.refl _ _)
  rw [if_neg hz] at hq
  have hX' := hX
  rcases hX' with ⟨_, q, _⟩ | ⟨id, off, cap, c, e', o, rfl, hnc, hg, hfc, hd, he⟩
  · exact absurd q hz
  obtain rfl : e' = 3 := he.resolve_left (by omega)
  have dn : decide ((n : Int) = 0) = false := decide_eq_false (by omega)
  refine AM.enter hp (fn := Tryd.f16) (rs := [.tmp 6]) (nt := 51) (by kernel_rfl) Tryd.func16 rfl rfl rfl (by kernel_rfl) ?_
  (repeat' (first | (simp (maxSteps := 1000000) (disch := first | omega | (simp only [AM.DB, List.length_set, List.length_map]; first | done | omega)) only [AM.RB, Nat.reduceAdd, Nat.reduceMul, Nat.reduceEqDiff, reduceCtorEq, b16_RT7, dn, hX.ia el_22, Rd.ldi hX lk_3, Int.toNat_natCast, AM.wrap_i64]) | refine AM.drawW_fine hp (by kernel_rfl) (by kernel_rfl) (by kernel_rfl) ?_ | refine AM.opW_tied (by kernel_rfl) ?_ | refine AM.opW_untied (by kernel_rfl) ?_))
  have e1 : ((n : Int) - 1).toNat = n - 1 := by omega
  have e0 : Int.toNat 0 = 0 := rfl
  (repeat' (first | (simp (maxSteps := 1000000) (disch := first | omega | (simp only [AM.DB, List.length_set, List.length_map]; first | done | omega)) only [AM.RB, Nat.reduceAdd, Nat.reduceMul, Nat.reduceEqDiff, reduceCtorEq, b16_RT7, e1, e0]) | refine AM.drawW_fine hp (by kernel_rfl) (by kernel_rfl) (by kernel_rfl) ?_ | refine AM.opW_tied (by kernel_rfl) ?_ | refine AM.opW_untied (by kernel_rfl) ?_))
  refine may_w m f (X.getD 0 0) (X.getD (n - 1) 0) ?_
  cases hff : (freeP L.flatten (X.getD 0 0) && freeP L.flatten (X.getD (n - 1) 0)) with
  | false =>
    have h1 : ¬ (freeP L.flatten (X.getD 0 0) = true ∧ freeP L.flatten (X.getD (n - 1) 0) = true) := by
      rw [← Bool.and_eq_true, hff]; simp
    rw [if_neg h1] at hq ⊢
    (repeat' (first | (simp (maxSteps := 1000000) (disch := first | omega | (simp only [AM.DB, List.length_set, List.length_map]; first | done | omega)) only [AM.RB, Nat.reduceAdd, Nat.reduceMul, Nat.reduceEqDiff, reduceCtorEq, b16_RT7, d20]) | refine AM.drawW_fine hp (by kernel_rfl) (by kernel_rfl) (by kernel_rfl) ?_ | refine AM.opW_tied (by kernel_rfl) ?_ | refine AM.opW_untied (by kernel_rfl) ?_))
    exact hq h m (Fr.refl _ _)
  | true =>
  have h1 : freeP L.flatten (X.getD 0 0) = true ∧ freeP L.flatten (X.getD (n - 1) 0) = true := by
    rw [← Bool.and_eq_true, hff]
  rw [if_pos h1] at hq ⊢
  have t1 : Int.toNat 1 = 1 := rfl
  (repeat' (first | (simp (maxSteps := 1000000) (disch := first | omega | (simp only [AM.DB, List.length_set, List.length_map]; first | done | omega)) only [AM.RB, Nat.reduceAdd, Nat.reduceMul, Nat.reduceEqDiff, reduceCtorEq, b16_RT7, d00, AM.slc el_22 hg, AM.slbs_lo_i, t1, Nat.mul_one]) | refine AM.drawW_fine hp (by kernel_rfl) (by kernel_rfl) (by kernel_rfl) ?_ | refine AM.opW_tied (by kernel_rfl) ?_ | refine AM.opW_untied (by kernel_rfl) ?_))
  have rT : Rd h 3 1 (.slice (some ⟨id, off + 1, none⟩) (n - 1) (cap - 1)) (n - 1) ((X.drop 1).map (.int .i64)) := by
    refine .inr ⟨id, off + 1, cap - 1, c, 3, o, rfl, by omega, hg, by omega, ?_, .inr rfl⟩
    rw [List.map_drop, ← hd, List.drop_take, List.drop_drop]
    rw [show n * 1 - 1 = (n - 1) * 1 by omega]
  have dg : ∀ i, (X.drop 1).getD i 0 = X.getD (i + 1) 0 := fun i => by
    simp only [List.getD, List.getElem?_drop]
    rw [Nat.add_comm]
  refine AM.loop_w hp 51 (fun i : Nat => [(0, pv p), (1, .slice (some ⟨id, off, none⟩) n cap), (2, .slice xb nb xc), (30, .slice (some ⟨id, off + 1, none⟩) (n - 1) (cap - 1)), (31, .int .i64 (n - 1 : Nat)), (32, .int .i64 i)])
    (fun i h' => i ≤ n - 1 ∧ okN L B X i = true ∧ Mk h' p L B0 ∧ Fr (fun id => id = p) h h') (fun i => n - 1 - i) (by kernel_rfl) 0 ?_ ?_ ?_
  · simp (maxSteps := 1000000) (disch := first | omega | (simp only [AM.DB, List.length_set, List.length_map]; first | done | omega)) only [AM.RB, Nat.reduceAdd, Nat.reduceMul, Nat.reduceEqDiff, reduceCtorEq, b16_RT7]
    first | rfl | skip
  · exact ⟨Nat.zero_le _, rfl, m, Fr.refl _ _⟩
  rintro i h1 ρ ⟨hi, hok, m1, fr1⟩
  have hl1 := fr1.hl hl
  have hX1 := hX.fr fr1 hpX
  have rT1 := rT.fr fr1 (fun j q => hpX j q)
  have hw1 := fr1.get hw hgp
  have lo1 := fr1.low
  have ti : ((i : Int) + 1).toNat = i + 1 := by omega
  (repeat' (first | (simp (maxSteps := 1000000) (disch := first | omega | (simp only [AM.DB, List.length_set, List.length_map]; first | done | omega)) only [AM.RB, Nat.reduceAdd, Nat.reduceMul, Nat.reduceEqDiff, reduceCtorEq, b16_RT7]) | refine AM.drawW_fine hp (by kernel_rfl) (by kernel_rfl) (by kernel_rfl) ?_ | refine AM.opW_tied (by kernel_rfl) ?_ | refine AM.opW_untied (by kernel_rfl) ?_))
  refine AM.condV_split (fun hlt => ?_) (fun hlt => ?_)
  case' refine_2 =>
    obtain rfl : i = n - 1 := by omega
    rw [if_pos hok] at hq
    (repeat' (first | (simp (maxSteps := 1000000) (disch := first | omega | (simp only [AM.DB, List.length_set, List.length_map]; first | done | omega)) only [AM.RB, Nat.reduceAdd, Nat.reduceMul, Nat.reduceEqDiff, reduceCtorEq, b16_RT7]) | refine AM.drawW_fine hp (by kernel_rfl) (by kernel_rfl) (by kernel_rfl) ?_ | refine AM.opW_tied (by kernel_rfl) ?_ | refine AM.opW_untied (by kernel_rfl) ?_))
    exact hq _ m1 fr1
  have hin : i < n - 1 := by omega
  have os := okN_succ L B X i
  rw [hok, Bool.true_and] at os
  (repeat' (first | (simp (maxSteps := 1000000) (disch := first | omega | (simp only [AM.DB, List.length_set, List.length_map]; first | done | omega)) only [AM.RB, Nat.reduceAdd, Nat.reduceMul, Nat.reduceEqDiff, reduceCtorEq, b16_RT7, rT1.ia el_22, Rd.ldi rT1 lk_3, hX1.ia el_22, Rd.ldi hX1 lk_3, Int.toNat_natCast, dg]) | refine AM.drawW_fine hp (by kernel_rfl) (by kernel_rfl) (by kernel_rfl) ?_ | refine AM.opW_tied (by kernel_rfl) ?_ | refine AM.opW_untied (by kernel_rfl) ?_))
  refine edgeK_w m1 f hw1 (by omega) hl1 (X.getD i 0) (X.getD (i + 1) 0) fun h2 m2 fr2 => ?_
  have fr02 := fr1.trans fr2
  have bad : okS L B X i = false → ¬ okN L B X (n - 1) = true := fun q => by rw [okN_bad q hin]; simp
  cases he : edgeL L (X.getD i 0) (X.getD (i + 1) 0) with
  | false =>
    rw [if_neg (bad (by unfold okS; rw [he]; rfl))] at hq
    (repeat' (first | (simp (maxSteps := 1000000) (disch := first | omega | (simp only [AM.DB, List.length_set, List.length_map]; first | done | omega)) only [AM.RB, Nat.reduceAdd, Nat.reduceMul, Nat.reduceEqDiff, reduceCtorEq, b16_RT7]) | refine AM.drawW_fine hp (by kernel_rfl) (by kernel_rfl) (by kernel_rfl) ?_ | refine AM.opW_tied (by kernel_rfl) ?_ | refine AM.opW_untied (by kernel_rfl) ?_))
    exact hq _ m2 fr02
  | true =>
    (repeat' (first | (simp (maxSteps := 1000000) (disch := first | omega | (simp only [AM.DB, List.length_set, List.length_map]; first | done | omega)) only [AM.RB, Nat.reduceAdd, Nat.reduceMul, Nat.reduceEqDiff, reduceCtorEq, b16_RT7]) | refine AM.drawW_fine hp (by kernel_rfl) (by kernel_rfl) (by kernel_rfl) ?_ | refine AM.opW_tied (by kernel_rfl) ?_ | refine AM.opW_untied (by kernel_rfl) ?_))
    refine contains_w (hB.fr fr02 hpB) (by omega) (X.getD (i + 1) 0) ?_
    cases hc : decide (X.getD (i + 1) 0 ∈ B) with
    | true =>
      rw [if_neg (bad (by unfold okS; rw [he, hc]; rfl))] at hq
      (repeat' (first | (simp (maxSteps := 1000000) (disch := first | omega | (simp only [AM.DB, List.length_set, List.length_map]; first | done | omega)) only [AM.RB, Nat.reduceAdd, Nat.reduceMul, Nat.reduceEqDiff, reduceCtorEq, b16_RT7]) | refine AM.drawW_fine hp (by kernel_rfl) (by kernel_rfl) (by kernel_rfl) ?_ | refine AM.opW_tied (by kernel_rfl) ?_ | refine AM.opW_untied (by kernel_rfl) ?_))
      exact hq _ m2 fr02
    | false =>
      have ok1 : okN L B X (i + 1) = true := by rw [os]; unfold okS; rw [he, hc]; rfl
      (repeat' (first | (simp (maxSteps := 1000000) (disch := first | omega | (simp only [AM.DB, List.length_set, List.length_map]; first | done | omega)) only [AM.RB, Nat.reduceAdd, Nat.reduceMul, Nat.reduceEqDiff, reduceCtorEq, b16_RT7, AM.wrap_i64]) | refine AM.drawW_fine hp (by kernel_rfl) (by kernel_rfl) (by kernel_rfl) ?_ | refine AM.opW_tied (by kernel_rfl) ?_ | refine AM.opW_untied (by kernel_rfl) ?_))
      refine ⟨i + 1, by omega, ?_, by omega, ok1, m2, fr02⟩
      simp (maxSteps := 1000000) (disch := first | omega | (simp only [AM.DB, List.length_set, List.length_map]; first | done | omega)) only [AM.RB, Nat.reduceAdd, Nat.reduceMul, Nat.reduceEqDiff, reduceCtorEq, b16_RT7]
      first | rfl | skip
end Go.Proofs.YtgdcbjpookldoaaDoor

namespace Go.Proofs.YtgdcbjpookldoaaDoor
open Go.AM
set_option maxRecDepth 8000
theorem b122_RT9 : type_of% (And.intro (@AM.bin_neq) (@AM.op_binOp)) := And.intro (@AM.bin_neq) (@AM.op_binOp)
theorem b112_RT9 : type_of% (And.intro (@AM.bin_gtr) (And.intro (@AM.bin_lss) (And.intro (@AM.op_binOp) (@AM.op_call)))) := And.intro (@AM.bin_gtr) (And.intro (@AM.bin_lss) (And.intro (@AM.op_binOp) (@AM.op_call)))
theorem b111_RT9 : type_of% (And.intro (@AM.bin_add) (And.intro (@AM.bin_lss) (And.intro (@AM.bin_neq) (And.intro (@AM.iaO_ok) (And.intro (AM.ia_slice el_22) (And.intro (@AM.ldO_agg) (And.intro (@AM.ldO_one) (And.intro (@AM.ld_ptr) (And.intro (AM.len_slice ul_22) (And.intro (@lk_3) (And.intro (@AM.op_binOp) (And.intro (@AM.op_indexAddr) (And.intro (@AM.op_len) (@AM.op_load)))))))))))))) := And.intro (@AM.bin_add) (And.intro (@AM.bin_lss) (And.intro (@AM.bin_neq) (And.intro (@AM.iaO_ok) (And.intro (AM.ia_slice el_22) (And.intro (@AM.ldO_agg) (And.intro (@AM.ldO_one) (And.intro (@AM.ld_ptr) (And.intro (AM.len_slice ul_22) (And.intro (@lk_3) (And.intro (@AM.op_binOp) (And.intro (@AM.op_indexAddr) (And.intro (@AM.op_len) (@AM.op_load)))))))))))))
theorem b104_RT9 : type_of% (And.intro (@AM.boxK_agg) (And.intro (@AM.boxK_bool) (And.intro (@AM.boxK_func) (And.intro (@AM.boxK_int) (And.intro (@AM.boxK_map) (And.intro (@AM.boxK_pointer) (And.intro (@AM.boxK_slice) (And.intro (@AM.boxK_string) (And.intro (AM.bsW_int bs_22) (And.intro (AM.bsW_int3 bs_22) (And.intro (AM.bsW_nil bs_22) (And.intro (AM.bsW_slice bs_22) (And.intro (AM.bsW_string bs_22) (And.intro (@AM.fa_ptr) (And.intro (@fd_133_0) (And.intro (@fd_133_1) (And.intro (@fd_133_2) (And.intro (@AM.ldO_agg) (And.intro (@AM.ldO_one) (And.intro (@AM.ld_ptr) (And.intro (@lk_3) (And.intro (@AM.op_box) (And.intro (@AM.op_buildSlice) (And.intro (@AM.op_call) (And.intro (@AM.op_fieldAddr) (@AM.op_load)))))))))))))))))))))))))) := And.intro (@AM.boxK_agg) (And.intro (@AM.boxK_bool) (And.intro (@AM.boxK_func) (And.intro (@AM.boxK_int) (And.intro (@AM.boxK_map) (And.intro (@AM.boxK_pointer) (And.intro (@AM.boxK_slice) (And.intro (@AM.boxK_string) (And.intro (AM.bsW_int bs_22) (And.intro (AM.bsW_int3 bs_22) (And.intro (AM.bsW_nil bs_22) (And.intro (AM.bsW_slice bs_22) (And.intro (AM.bsW_string bs_22) (And.intro (@AM.fa_ptr) (And.intro (@fd_133_0) (And.intro (@fd_133_1) (And.intro (@fd_133_2) (And.intro (@AM.ldO_agg) (And.intro (@AM.ldO_one) (And.intro (@AM.ld_ptr) (And.intro (@lk_3) (And.intro (@AM.op_box) (And.intro (@AM.op_buildSlice) (And.intro (@AM.op_call) (And.intro (@AM.op_fieldAddr) (@AM.op_load)))))))))))))))))))))))))
theorem b94_RT9 : type_of% (And.intro (@Option.isNone_none.{0}) (And.intro (@Option.isNone_some.{0}) (And.intro (@AM.bin_gtr) (And.intro (@AM.bin_leq) (And.intro (AM.bin_pnil ul_142) (And.intro (@AM.bin_quo) (And.intro (@AM.bin_sub) (And.intro (@AM.boxK_agg) (And.intro (@AM.boxK_bool) (And.intro (@AM.boxK_func) (And.intro (@AM.boxK_int) (And.intro (@AM.boxK_map) (And.intro (@AM.boxK_pointer) (And.intro (@AM.boxK_slice) (And.intro (@AM.boxK_string) (And.intro (AM.bsW_agg bs_128) (And.intro (AM.bsW_nil bs_128) (And.intro (@AM.fa_ptr) (And.intro (@fd_130_0) (And.intro (@AM.iaO_ok) (And.intro (AM.ia_slice el_128) (And.intro (@AM.ldO_agg) (And.intro (@AM.ldO_one) (And.intro (@AM.ld_ptr) (And.intro (AM.len_slice ul_128) (And.intro (@lk_128) (And.intro (@lk_133) (And.intro (@AM.op_append) (And.intro (@AM.op_binOp) (And.intro (@AM.op_box) (And.intro (@AM.op_buildSlice) (And.intro (@AM.op_call) (And.intro (@AM.op_fieldAddr) (And.intro (@AM.op_indexAddr) (And.intro (@AM.op_len) (And.intro (@AM.op_load) (And.intro (@AM.op_nilCheck) (And.intro (@AM.op_store) (And.intro (@AM.stO_agg) (And.intro (@AM.stO_bool) (And.intro (@AM.stO_int) (And.intro (@AM.stO_map) (And.intro (@AM.stO_pointer) (And.intro (@AM.stO_slice) (And.intro (@AM.stO_string) (And.intro (@AM.st_ptr) (And.intro (@sz_128) (@sz_133)))))))))))))))))))))))))))))))))))))))))))))))) := And.intro (@Option.isNone_none.{0}) (And.intro (@Option.isNone_some.{0}) (And.intro (@AM.bin_gtr) (And.intro (@AM.bin_leq) (And.intro (AM.bin_pnil ul_142) (And.intro (@AM.bin_quo) (And.intro (@AM.bin_sub) (And.intro (@AM.boxK_agg) (And.intro (@AM.boxK_bool) (And.intro (@AM.boxK_func) (And.intro (@AM.boxK_int) (And.intro (@AM.boxK_map) (And.intro (@AM.boxK_pointer) (And.intro (@AM.boxK_slice) (And.intro (@AM.boxK_string) (And.intro (AM.bsW_agg bs_128) (And.intro (AM.bsW_nil bs_128) (And.intro (@AM.fa_ptr) (And.intro (@fd_130_0) (And.intro (@AM.iaO_ok) (And.intro (AM.ia_slice el_128) (And.intro (@AM.ldO_agg) (And.intro (@AM.ldO_one) (And.intro (@AM.ld_ptr) (And.intro (AM.len_slice ul_128) (And.intro (@lk_128) (And.intro (@lk_133) (And.intro (@AM.op_append) (And.intro (@AM.op_binOp) (And.intro (@AM.op_box) (And.intro (@AM.op_buildSlice) (And.intro (@AM.op_call) (And.intro (@AM.op_fieldAddr) (And.intro (@AM.op_indexAddr) (And.intro (@AM.op_len) (And.intro (@AM.op_load) (And.intro (@AM.op_nilCheck) (And.intro (@AM.op_store) (And.intro (@AM.stO_agg) (And.intro (@AM.stO_bool) (And.intro (@AM.stO_int) (And.intro (@AM.stO_map) (And.intro (@AM.stO_pointer) (And.intro (@AM.stO_slice) (And.intro (@AM.stO_string) (And.intro (@AM.st_ptr) (And.intro (@sz_128) (@sz_133)))))))))))))))))))))))))))))))))))))))))))))))


/-! ### The pile -/
theorem isNaN_w (a : Int) (h : AHeap) (Q : VQ) (hq : Q (.bool false) h) : W 122 [.int .i64 a] h Q := by
  refine AM.enter hp (fn := Tryd.f122) (rs := [.tmp 2]) (nt := 6) (by kernel_rfl) Tryd.func122 rfl rfl rfl (by kernel_rfl) ?_
  (first | (simp (maxSteps := 1000000) (disch := first | omega | (simp only [AM.DB, List.length_set, List.length_map]; first | done | omega)) only [AM.RB, Nat.reduceAdd, Nat.reduceMul, Nat.reduceEqDiff, reduceCtorEq, b122_RT9, decide_eq_true (rfl : a = a)]) | skip)
  exact hq
theorem compare_w (a b : Int) (h : AHeap) (Q : VQ) (hq : Q (.int .i64 (AM.cmpN a b)) h) : W 112 [.int .i64 a, .int .i64 b] h Q := by
  refine AM.enter hp (fn := Tryd.f112) (rs := [.tmp 4]) (nt := 20) (by kernel_rfl) Tryd.func112 rfl rfl rfl (by kernel_rfl) ?_
  (first | (simp (maxSteps := 1000000) (disch := first | omega | (simp only [AM.DB, List.length_set, List.length_map]; first | done | omega)) only [AM.RB, Nat.reduceAdd, Nat.reduceMul, Nat.reduceEqDiff, reduceCtorEq, b112_RT9]) | skip)
  refine isNaN_w a _ _ ?_
  (first | (simp (maxSteps := 1000000) (disch := first | omega | (simp only [AM.DB, List.length_set, List.length_map]; first | done | omega)) only [AM.RB, Nat.reduceAdd, Nat.reduceMul, Nat.reduceEqDiff, reduceCtorEq, b112_RT9]) | skip)
  refine isNaN_w b _ _ ?_
  unfold AM.cmpN at hq
  by_cases c1 : a < b
  · rw [if_pos c1] at hq
    (first | (simp (maxSteps := 1000000) (disch := first | omega | (simp only [AM.DB, List.length_set, List.length_map]; first | done | omega)) only [AM.RB, Nat.reduceAdd, Nat.reduceMul, Nat.reduceEqDiff, reduceCtorEq, b112_RT9, decide_eq_true c1]) | skip)
    exact hq
  · rw [if_neg c1] at hq
    by_cases c2 : b < a
    · rw [if_pos c2] at hq
      (first | (simp (maxSteps := 1000000) (disch := first | omega | (simp only [AM.DB, List.length_set, List.length_map]; first | done | omega)) only [AM.RB, Nat.reduceAdd, Nat.reduceMul, Nat.reduceEqDiff, reduceCtorEq, b112_RT9, decide_eq_false c1, decide_eq_true c2]) | skip)
      exact hq
    · rw [if_neg c2] at hq
      (first | (simp (maxSteps := 1000000) (disch := first | omega | (simp only [AM.DB, List.length_set, List.length_map]; first | done | omega)) only [AM.RB, Nat.reduceAdd, Nat.reduceMul, Nat.reduceEqDiff, reduceCtorEq, b112_RT9, decide_eq_false c1, decide_eq_false c2]) | skip)
      exact hq
theorem or_w {s : Value} {l : List Int} {h : AHeap} (hs : Rd h 3 1 s l.length (l.map (.int .i64))) (hn : l.length ≤ 4000000) {Q : VQ} (hq : Q (.int .i64 (AM.orN l)) h) : W 111 [s] h Q := by
  obtain ⟨sa, sc, rfl⟩ := hs.form
  refine AM.enter hp (fn := Tryd.f111) (rs := [.tmp 2]) (nt := 18) (by kernel_rfl) Tryd.func111 rfl rfl rfl (by kernel_rfl) ?_
  (first | (simp (maxSteps := 1000000) (disch := first | omega | (simp only [AM.DB, List.length_set, List.length_map]; first | done | omega)) only [AM.RB, Nat.reduceAdd, Nat.reduceMul, Nat.reduceEqDiff, reduceCtorEq, b111_RT9]) | skip)
  refine AM.loop_w hp 18 (fun i : Nat => [(3, .int .i64 0), (6, .slice sa l.length sc), (7, .int .i64 l.length), (8, .int .i64 i)])
    (fun i h' => h' = h ∧ i ≤ l.length ∧ AM.orN (l.drop i) = AM.orN l) (fun i => l.length - i) (by kernel_rfl) 0 ?_ ?_ ?_
  · simp (maxSteps := 1000000) (disch := first | omega | (simp only [AM.DB, List.length_set, List.length_map]; first | done | omega)) only [AM.RB, Nat.reduceAdd, Nat.reduceMul, Nat.reduceEqDiff, reduceCtorEq, b111_RT9]
    first | rfl | skip
  · exact ⟨rfl, Nat.zero_le _, rfl⟩
  rintro i h1 ρ ⟨rfl, hi, ho⟩
  (first | (simp (maxSteps := 1000000) (disch := first | omega | (simp only [AM.DB, List.length_set, List.length_map]; first | done | omega)) only [AM.RB, Nat.reduceAdd, Nat.reduceMul, Nat.reduceEqDiff, reduceCtorEq, b111_RT9]) | skip)
  refine AM.condV_split (fun hlt => ?_) (fun hlt => ?_)
  · have hin : i < l.length := by omega
    by_cases c : l.getD i 0 = 0
    · (first | (simp (maxSteps := 1000000) (disch := first | omega | (simp only [AM.DB, List.length_set, List.length_map]; first | done | omega)) only [AM.RB, Nat.reduceAdd, Nat.reduceMul, Nat.reduceEqDiff, reduceCtorEq, b111_RT9, hs.ia el_22, Rd.ldi hs lk_3, Int.toNat_natCast, decide_eq_true c, AM.wrap_i64]) | skip)
      refine ⟨i + 1, by omega, ?_, by omega, by rw [AM.orN_step hin c]; exact ho⟩
      simp (maxSteps := 1000000) (disch := first | omega | (simp only [AM.DB, List.length_set, List.length_map]; first | done | omega)) only [AM.RB, Nat.reduceAdd, Nat.reduceMul, Nat.reduceEqDiff, reduceCtorEq, b111_RT9]
      first | rfl | skip
    · rw [← ho, AM.orN_hit hin c] at hq
      (first | (simp (maxSteps := 1000000) (disch := first | omega | (simp only [AM.DB, List.length_set, List.length_map]; first | done | omega)) only [AM.RB, Nat.reduceAdd, Nat.reduceMul, Nat.reduceEqDiff, reduceCtorEq, b111_RT9, hs.ia el_22, Rd.ldi hs lk_3, Int.toNat_natCast, decide_eq_false c]) | skip)
      exact hq
  · obtain rfl : i = l.length := by omega
    rw [List.drop_length] at ho
    rw [← ho] at hq
    (first | (simp (maxSteps := 1000000) (disch := first | omega | (simp only [AM.DB, List.length_set, List.length_map]; first | done | omega)) only [AM.RB, Nat.reduceAdd, Nat.reduceMul, Nat.reduceEqDiff, reduceCtorEq, b111_RT9]) | skip)
    exact hq
theorem pcmp_w (a b : AM.It) {h : AHeap} (hl : h.low ≤ h.next) {Q : VQ} (hq : ∀ h', Fr none' h h' → Q (.int .i64 (AM.cmpI a b)) h') : W 104 [.agg (AM.encI a).toArray, .agg (AM.encI b).toArray] h Q := by
  unfold AM.encI
  refine AM.enter hp (fn := Tryd.f104) (rs := [.tmp 4]) (nt := 22) (by kernel_rfl) Tryd.func104 rfl rfl rfl (by kernel_rfl) ?_
  (repeat' (first | (simp (maxSteps := 1000000) (disch := first | omega | (simp only [AM.DB, List.length_set, List.length_map]; first | done | omega)) only [AM.RB, Nat.reduceAdd, Nat.reduceMul, Nat.reduceEqDiff, reduceCtorEq, b104_RT9]) | refine AM.drawW_loose (id := 1) hp (by kernel_rfl) (by kernel_rfl) ?_ | refine AM.opW_tied (by kernel_rfl) ?_ | refine AM.opW_untied (by kernel_rfl) ?_))
  generalize hE_ : AHeap.alloc h _ = h1; obtain ⟨g1, fr1, n1, l1⟩ := AM.new_get hE_; clear hE_
  generalize hE_ : AHeap.alloc h1 _ = h2; obtain ⟨g2, fr2, n2, l2⟩ := AM.new_get hE_; clear hE_
  have g12 := g1.fr0 fr2
  rw [n1] at g2
  refine compare_w a.1 b.1 _ _ ?_
  (repeat' (first | (simp (maxSteps := 1000000) (disch := first | omega | (simp only [AM.DB, List.length_set, List.length_map]; first | done | omega)) only [AM.RB, Nat.reduceAdd, Nat.reduceMul, Nat.reduceEqDiff, reduceCtorEq, b104_RT9, g12, g2]) | refine AM.drawW_loose (id := 1) hp (by kernel_rfl) (by kernel_rfl) ?_ | refine AM.opW_tied (by kernel_rfl) ?_ | refine AM.opW_untied (by kernel_rfl) ?_))
  refine compare_w 0 0 _ _ ?_
  (repeat' (first | (simp (maxSteps := 1000000) (disch := first | omega | (simp only [AM.DB, List.length_set, List.length_map]; first | done | omega)) only [AM.RB, Nat.reduceAdd, Nat.reduceMul, Nat.reduceEqDiff, reduceCtorEq, b104_RT9, g12, g2]) | refine AM.drawW_loose (id := 1) hp (by kernel_rfl) (by kernel_rfl) ?_ | refine AM.opW_tied (by kernel_rfl) ?_ | refine AM.opW_untied (by kernel_rfl) ?_))
  refine compare_w a.2 b.2 _ _ ?_
  (repeat' (first | (simp (maxSteps := 1000000) (disch := first | omega | (simp only [AM.DB, List.length_set, List.length_map]; first | done | omega)) only [AM.RB, Nat.reduceAdd, Nat.reduceMul, Nat.reduceEqDiff, reduceCtorEq, b104_RT9, g12, g2]) | refine AM.drawW_loose (id := 1) hp (by kernel_rfl) (by kernel_rfl) ?_ | refine AM.opW_tied (by kernel_rfl) ?_ | refine AM.opW_untied (by kernel_rfl) ?_))
  generalize hE_ : AHeap.alloc h2 _ = h3; obtain ⟨g3, fr3, n3, l3⟩ := AM.new_get hE_; clear hE_
  have fr03 := (fr1.trans fr2).trans fr3
  refine or_w (l := [AM.cmpN a.1 b.1, AM.cmpN 0 0, AM.cmpN a.2 b.2]) (AM.Rd.whole (n := 3) g3 rfl) (by simp) ?_
  rw [show AM.cmpN 0 0 = 0 from rfl, AM.orN_cmp]
  (repeat' (first | (simp (maxSteps := 1000000) (disch := first | omega | (simp only [AM.DB, List.length_set, List.length_map]; first | done | omega)) only [AM.RB, Nat.reduceAdd, Nat.reduceMul, Nat.reduceEqDiff, reduceCtorEq, b104_RT9]) | refine AM.drawW_loose (id := 1) hp (by kernel_rfl) (by kernel_rfl) ?_ | refine AM.opW_tied (by kernel_rfl) ?_ | refine AM.opW_untied (by kernel_rfl) ?_))
  have g123 := g12.fr0 fr3
  have g23 := g2.fr0 fr3
  refine ⟨AM.looseOk_by [(6, [0, 5]), (8, [0, 5]), (11, [0, 5, 10]), (13, [0, 5, 10])] (by kernel_rfl) ?_, ?_⟩
  · simp (maxSteps := 1000000) (disch := first | omega | (simp only [AM.DB, List.length_set, List.length_map]; first | done | omega)) only [AM.RB, Nat.reduceAdd, Nat.reduceMul, Nat.reduceEqDiff, reduceCtorEq, b104_RT9]
    (repeat' apply And.intro) <;> (first | (refine AM.stable_len _ _ _ _ _ _ (fun _ => ?_); (simp (maxSteps := 1000000) (disch := first | omega | (simp only [AM.DB, List.length_set, List.length_map]; first | done | omega)) only [AM.RB, Nat.reduceAdd, Nat.reduceMul, Nat.reduceEqDiff, reduceCtorEq, b104_RT9, g12, g2, g123, g23])) | (refine AM.stable_load _ _ _ _ _ _ ?_; (first | (simp (maxSteps := 1000000) (disch := first | omega | (simp only [AM.DB, List.length_set, List.length_map]; first | done | omega)) only [AM.RB, Nat.reduceAdd, Nat.reduceMul, Nat.reduceEqDiff, reduceCtorEq, b104_RT9, g12, g2, g123, g23]) | skip); (first | (refine AM.stabL_int (by omega) ?_; (simp (maxSteps := 1000000) (disch := first | omega | (simp only [AM.DB, List.length_set, List.length_map]; first | done | omega)) only [AM.RB, Nat.reduceAdd, Nat.reduceMul, Nat.reduceEqDiff, reduceCtorEq, b104_RT9, g12, g2, g123, g23])) | (refine AM.stabL_ptr (by omega) (by omega) ?_; (simp (maxSteps := 1000000) (disch := first | omega | (simp only [AM.DB, List.length_set, List.length_map]; first | done | omega)) only [AM.RB, Nat.reduceAdd, Nat.reduceMul, Nat.reduceEqDiff, reduceCtorEq, b104_RT9, g12, g2, g123, g23])) | (refine AM.stabL_string (by omega) ?_; (simp (maxSteps := 1000000) (disch := first | omega | (simp only [AM.DB, List.length_set, List.length_map]; first | done | omega)) only [AM.RB, Nat.reduceAdd, Nat.reduceMul, Nat.reduceEqDiff, reduceCtorEq, b104_RT9, g12, g2, g123, g23])) | (refine AM.stabL_bool (by omega) ?_; (simp (maxSteps := 1000000) (disch := first | omega | (simp only [AM.DB, List.length_set, List.length_map]; first | done | omega)) only [AM.RB, Nat.reduceAdd, Nat.reduceMul, Nat.reduceEqDiff, reduceCtorEq, b104_RT9, g12, g2, g123, g23])))))
  exact hq _ fr03

/-- A pile in memory: what it holds, in order. -/
structure Pl (h : AHeap) (pid : Nat) (P : List AM.It) (v : Value) : Prop where
  g : h.get pid = some (.cells [v] 130 false)
  o : Ow h 133 3 v P.length (P.flatMap AM.encI)
  lo : h.low ≤ pid
  na : ∀ id, idOf v id → pid < id
theorem Pl.fr {h h' : AHeap} {pid : Nat} {P : List AM.It} {v : Value} {T : Nat → Prop} (x : Pl h pid P v) (fr : Fr T h h') (h1 : ¬ T pid) (h2 : ∀ id, idOf v id → ¬ T id) : Pl h' pid P v :=
  ⟨fr.get x.g h1, x.o.fr fr h2, by rw [fr.low]; exact x.lo, x.na⟩
theorem Pl.fr0 {h h' : AHeap} {pid : Nat} {P : List AM.It} {v : Value} (x : Pl h pid P v) (fr : Fr none' h h') : Pl h' pid P v := x.fr fr (fun q => q) fun _ _ q => q

theorem quo2 (i : Nat) (h : 0 < i) : Int.tdiv ((i : Int) - 1) 2 = ((i - 1) / 2 : Nat) := by
  rw [show (i : Int) - 1 = ((i - 1 : Nat) : Int) by omega]; exact tdiv_nat (i - 1) 2

set_option maxHeartbeats 8000000 in
theorem push_w {h : AHeap} {pid : Nat} {P : List AM.It} {v : Value} (x : Pl h pid P v) (hP : AM.HeapP P) (hl : h.low ≤ h.next) (hn : P.length ≤ 4000000) (q : AM.It) {Q : VQ}
    (hq : ∀ u P' v' h', Pl h' pid P' v' → AM.HeapP P' → P'.Perm (q :: P) → Fr (fun id => id = pid ∨ idOf v id) h h' → (∀ id, idOf v' id → idOf v id ∨ h.next ≤ id) → Q u h') : W 94 [pv pid, .agg #[.int .i64 q.1, .int .i64 0, .int .i64 q.2]] h Q := by
  have lt0 := AM.get_some_lt x.g
  have lo0 := x.lo
  obtain ⟨va, vc, rfl⟩ := x.o.form
  refine AM.enter hp (fn := Tryd.f94) (rs := []) (nt := 60) (by kernel_rfl) Tryd.func94 rfl rfl rfl (by kernel_rfl) ?_
  (repeat' (first | (simp (maxSteps := 1000000) (disch := first | omega | (simp only [AM.DB, List.length_set, List.length_map]; first | done | omega)) only [AM.RB, Nat.reduceAdd, Nat.reduceMul, Nat.reduceEqDiff, reduceCtorEq, b94_RT9]) | refine AM.drawW_fine hp (by kernel_rfl) (by kernel_rfl) (by kernel_rfl) ?_ | refine AM.opW_tied (by kernel_rfl) ?_ | refine AM.opW_untied (by kernel_rfl) ?_))
  generalize hE_ : AHeap.alloc h _ = h1; obtain ⟨g1, fr1, n1, l1⟩ := AM.new_get hE_; clear hE_
  have x1 := x.fr0 fr1
  have xg := x1.g
  have xg0 := x.g
  (repeat' (first | (simp (maxSteps := 1000000) (disch := first | omega | (simp only [AM.DB, List.length_set, List.length_map]; first | done | omega)) only [AM.RB, Nat.reduceAdd, Nat.reduceMul, Nat.reduceEqDiff, reduceCtorEq, b94_RT9, xg, xg0, g1]) | refine AM.drawW_fine hp (by kernel_rfl) (by kernel_rfl) (by kernel_rfl) ?_ | refine AM.opW_tied (by kernel_rfl) ?_ | refine AM.opW_untied (by kernel_rfl) ?_))
  generalize hE_ : AHeap.alloc h1 _ = h2; obtain ⟨g2, fr2, n2, l2⟩ := AM.new_get hE_; clear hE_
  have x2 := x1.fr0 fr2
  refine AM.appends_w ap_128 ap_128 x2.o (AM.Rd.whole (n := 1) (c := AM.encI q) g2 rfl) rfl (by omega) (AM.fits (by omega) (by omega)) (AM.fits' (by omega)) fun v3 h3 o3 fr3 hid3 => ?_
  obtain ⟨ba, bc, rfl⟩ := o3.form
  have xg3 := fr3.get x2.g (fun e => by have := x.na _ e; omega)
  have lo3 : h3.low ≤ pid := by have := fr3.low; omega
  have g13 := fr3.get (g1.fr0 fr2) (fun e => by have := x.o.lt e; omega)
  have lt3 := AM.get_some_lt xg3
  (repeat' (first | (simp (maxSteps := 1000000) (disch := first | omega | (simp only [AM.DB, List.length_set, List.length_map]; first | done | omega)) only [AM.RB, Nat.reduceAdd, Nat.reduceMul, Nat.reduceEqDiff, reduceCtorEq, b94_RT9, xg3]) | refine AM.drawW_fine hp (by kernel_rfl) (by kernel_rfl) (by kernel_rfl) ?_ | refine AM.opW_tied (by kernel_rfl) ?_ | refine AM.opW_untied (by kernel_rfl) ?_))
  generalize hE_ : AHeap.put h3 _ _ = h4; obtain ⟨g4, fr4, n4, l4⟩ := AM.put_get hE_ (by omega); clear hE_
  have na3 : ∀ id, idOf (.slice ba (P.length + 1) bc) id → pid < id ∧ ¬ id = h.next := fun id e => by
    rcases hid3 id e with e | e
    · have := x.na id e; have := x.o.lt e; exact ⟨by omega, by omega⟩
    · exact ⟨by omega, by omega⟩
  have g14 := fr4.get g13 (fun e => by omega)
  have o4 := o3.fr fr4 (fun id e t => by have := (na3 id e).1; omega)
  have n34 := fr3.next
  have e1 : P.flatMap AM.encI ++ AM.encI q = (P ++ [q]).flatMap AM.encI := by simp
  rw [e1] at o4
  (repeat' (first | (simp (maxSteps := 1000000) (disch := first | omega | (simp only [AM.DB, List.length_set, List.length_map]; first | done | omega)) only [AM.RB, Nat.reduceAdd, Nat.reduceMul, Nat.reduceEqDiff, reduceCtorEq, b94_RT9, g4, AM.wrap_i64]) | refine AM.drawW_fine hp (by kernel_rfl) (by kernel_rfl) (by kernel_rfl) ?_ | refine AM.opW_tied (by kernel_rfl) ?_ | refine AM.opW_untied (by kernel_rfl) ?_))
  refine AM.loop_w hp 60 (fun z : Nat × List AM.It => [(0, pv pid), (3, pv h.next), (4, .int .i64 z.1)])
    (fun z h' => AM.Up z.2 z.1 q ∧ z.2.length = P.length + 1 ∧ (z.2.set z.1 q).Perm (q :: P) ∧ Ow h' 133 3 (.slice ba (P.length + 1) bc) (P.length + 1) (z.2.flatMap AM.encI) ∧ Fr (idOf (.slice ba (P.length + 1) bc)) h4 h') (fun z => z.1) (by kernel_rfl) (P.length, P ++ [q]) ?_ ?_ ?_
  · simp (maxSteps := 1000000) (disch := first | omega | (simp only [AM.DB, List.length_set, List.length_map]; first | done | omega)) only [AM.RB, Nat.reduceAdd, Nat.reduceMul, Nat.reduceEqDiff, reduceCtorEq, b94_RT9]
    rw [show (P.length : Int) + 1 - 1 = P.length by omega]
  · refine ⟨AM.Up.start hP q, by simp, ?_, o4, Fr.refl _ _⟩
    simp only
    rw [List.set_append_right _ _ (Nat.le_refl _), Nat.sub_self]
    exact List.perm_append_comm (l₂ := [q])
  rintro ⟨i, l⟩ h5 ρ ⟨up, hll, pm, o5, fr5⟩
  simp only at up hll pm o5 ⊢
  have hi := up.lt
  have g15 := fr5.get g14 (fun e => (na3 _ e).2 rfl)
  have g45 := fr5.get g4 (fun e => by have := (na3 _ e).1; omega)
  have lo5 := fr5.low
  have nx5 := fr5.next
  have r5 := o5.rd
  have fin : ∀ h8 (o8 : Ow h8 133 3 (.slice ba (P.length + 1) bc) (P.length + 1) ((l.set i q).flatMap AM.encI)) (fr8 : Fr (idOf (.slice ba (P.length + 1) bc)) h4 h8) (hh : AM.HeapP (l.set i q)) (u : Value), Q u h8 := fun h8 o8 fr8 hh u => by
    have g48 := fr8.get g4 (fun e => by have := (na3 _ e).1; omega)
    have lo8 := fr8.low
    have ln : (l.set i q).length = P.length + 1 := by rw [List.length_set]; exact hll
    have n02 : h.next ≤ h2.next := by omega
    refine hq u (l.set i q) _ h8 ⟨g48, by rw [ln]; exact o8, by omega, fun id e => (na3 id e).1⟩ hh pm ?_ (fun id e => (hid3 id e).imp (fun e => e) fun e => by omega)
    have f3 : Fr (fun id => id = pid ∨ idOf (.slice va P.length vc) id) h h3 := ((fr1.trans fr2).weak).then fr3 fun id _ e => .inr e
    have f4 := f3.then fr4 fun id _ e => .inl e
    exact f4.then fr8 fun id hlt e => (hid3 id e).elim .inr fun e => by omega
  (repeat' (first | (simp (maxSteps := 1000000) (disch := first | omega | (simp only [AM.DB, List.length_set, List.length_map]; first | done | omega)) only [AM.RB, Nat.reduceAdd, Nat.reduceMul, Nat.reduceEqDiff, reduceCtorEq, b94_RT9]) | refine AM.drawW_fine hp (by kernel_rfl) (by kernel_rfl) (by kernel_rfl) ?_ | refine AM.opW_tied (by kernel_rfl) ?_ | refine AM.opW_untied (by kernel_rfl) ?_))
  refine AM.condV_split (fun hlt => ?_) (fun hlt => ?_)
  case' refine_2 =>
    have hz : i = 0 := by omega
    have ee : ((0 : Nat) : Int) = 0 := rfl
    (repeat' (first | (simp (maxSteps := 1000000) (disch := first | omega | (simp only [AM.DB, List.length_set, List.length_map]; first | done | omega)) only [AM.RB, Nat.reduceAdd, Nat.reduceMul, Nat.reduceEqDiff, reduceCtorEq, b94_RT9, g45, g15, r5.ia el_128, Int.toNat_natCast]) | refine AM.drawW_fine hp (by kernel_rfl) (by kernel_rfl) (by kernel_rfl) ?_ | refine AM.opW_tied (by kernel_rfl) ?_ | refine AM.opW_untied (by kernel_rfl) ?_))
    refine o5.stg (l := AM.encI q) sz_133 (j := i) (by omega) rfl rfl fun h6 o6 fr6 n6 => ?_
    rw [AM.flat_set AM.encI_len (by omega) l i q hi] at o6
    (repeat' (first | (simp (maxSteps := 1000000) (disch := first | omega | (simp only [AM.DB, List.length_set, List.length_map]; first | done | omega)) only [AM.RB, Nat.reduceAdd, Nat.reduceMul, Nat.reduceEqDiff, reduceCtorEq, b94_RT9]) | refine AM.drawW_fine hp (by kernel_rfl) (by kernel_rfl) (by kernel_rfl) ?_ | refine AM.opW_tied (by kernel_rfl) ?_ | refine AM.opW_untied (by kernel_rfl) ?_))
    exact fin _ o6 (fr5.trans fr6) (up.done (.inl hz)) _
  have h0 : 0 < i := by omega
  have e2 := quo2 i h0
  have ai : (i - 1) / 2 < l.length := by omega
  (repeat' (first | (simp (maxSteps := 1000000) (disch := first | omega | (simp only [AM.DB, List.length_set, List.length_map]; first | done | omega)) only [AM.RB, Nat.reduceAdd, Nat.reduceMul, Nat.reduceEqDiff, reduceCtorEq, b94_RT9, AM.wrap_i64, e2, g45, g15, r5.ia el_128, r5.lds AM.encI_len lk_133 hll AM.z0, Int.toNat_natCast]) | refine AM.drawW_fine hp (by kernel_rfl) (by kernel_rfl) (by kernel_rfl) ?_ | refine AM.opW_tied (by kernel_rfl) ?_ | refine AM.opW_untied (by kernel_rfl) ?_))
  refine pcmp_w (AM.at' l ((i - 1) / 2)) q (by omega) fun h6 fr6 => ?_
  have o6 := o5.fr0 fr6
  have r6 := o6.rd
  have g46 := g45.fr0 fr6
  have g16 := g15.fr0 fr6
  have lo6 := fr6.low
  have nx6 := fr6.next
  by_cases c : AM.leI (AM.at' l ((i - 1) / 2)) q
  · have d1 : decide (AM.cmpI (AM.at' l ((i - 1) / 2)) q ≤ 0) = true := decide_eq_true ((AM.cmpI_le _ _).2 c)
    (repeat' (first | (simp (maxSteps := 1000000) (disch := first | omega | (simp only [AM.DB, List.length_set, List.length_map]; first | done | omega)) only [AM.RB, Nat.reduceAdd, Nat.reduceMul, Nat.reduceEqDiff, reduceCtorEq, b94_RT9, d1, g46, g16, r6.ia el_128, Int.toNat_natCast]) | refine AM.drawW_fine hp (by kernel_rfl) (by kernel_rfl) (by kernel_rfl) ?_ | refine AM.opW_tied (by kernel_rfl) ?_ | refine AM.opW_untied (by kernel_rfl) ?_))
    refine o6.stg (l := AM.encI q) sz_133 (j := i) (by omega) rfl rfl fun h7 o7 fr7 n7 => ?_
    rw [AM.flat_set AM.encI_len (by omega) l i q hi] at o7
    (repeat' (first | (simp (maxSteps := 1000000) (disch := first | omega | (simp only [AM.DB, List.length_set, List.length_map]; first | done | omega)) only [AM.RB, Nat.reduceAdd, Nat.reduceMul, Nat.reduceEqDiff, reduceCtorEq, b94_RT9]) | refine AM.drawW_fine hp (by kernel_rfl) (by kernel_rfl) (by kernel_rfl) ?_ | refine AM.opW_tied (by kernel_rfl) ?_ | refine AM.opW_untied (by kernel_rfl) ?_))
    exact fin _ o7 ((fr5.trans fr6.weak).trans fr7) (up.done (.inr c)) _
  · have d1 : decide (AM.cmpI (AM.at' l ((i - 1) / 2)) q ≤ 0) = false := decide_eq_false fun t => c ((AM.cmpI_le _ _).1 t)
    (repeat' (first | (simp (maxSteps := 1000000) (disch := first | omega | (simp only [AM.DB, List.length_set, List.length_map]; first | done | omega)) only [AM.RB, Nat.reduceAdd, Nat.reduceMul, Nat.reduceEqDiff, reduceCtorEq, b94_RT9, d1, g46, g16, r6.ia el_128, r6.lds AM.encI_len lk_133 hll AM.z0, Int.toNat_natCast]) | refine AM.drawW_fine hp (by kernel_rfl) (by kernel_rfl) (by kernel_rfl) ?_ | refine AM.opW_tied (by kernel_rfl) ?_ | refine AM.opW_untied (by kernel_rfl) ?_))
    refine o6.stg (l := AM.encI (AM.at' l ((i - 1) / 2))) sz_133 (j := i) (by omega) rfl rfl fun h7 o7 fr7 n7 => ?_
    rw [AM.flat_set AM.encI_len (by omega) l i _ hi] at o7
    (repeat' (first | (simp (maxSteps := 1000000) (disch := first | omega | (simp only [AM.DB, List.length_set, List.length_map]; first | done | omega)) only [AM.RB, Nat.reduceAdd, Nat.reduceMul, Nat.reduceEqDiff, reduceCtorEq, b94_RT9]) | refine AM.drawW_fine hp (by kernel_rfl) (by kernel_rfl) (by kernel_rfl) ?_ | refine AM.opW_tied (by kernel_rfl) ?_ | refine AM.opW_untied (by kernel_rfl) ?_))
    refine ⟨((i - 1) / 2, l.set i (AM.at' l ((i - 1) / 2))), by simp only; omega, ?_, up.move h0 c, by simp only; rw [List.length_set]; exact hll, (AM.swap_perm hi ai q).trans pm, o7, (fr5.trans fr6.weak).trans fr7⟩
    simp (maxSteps := 1000000) (disch := first | omega | (simp only [AM.DB, List.length_set, List.length_map]; first | done | omega)) only [AM.RB, Nat.reduceAdd, Nat.reduceMul, Nat.reduceEqDiff, reduceCtorEq, b94_RT9]
    first | rfl | skip
end Go.Proofs.YtgdcbjpookldoaaDoor

namespace Go.Proofs.YtgdcbjpookldoaaDoor
open Go.AM
set_option maxRecDepth 8000
theorem b106_RTP : type_of% (And.intro (@AM.bin_add) (And.intro (@AM.bin_leq) (And.intro (@AM.bin_lss) (And.intro (@AM.bin_mul) (And.intro (@AM.boxK_agg) (And.intro (@AM.boxK_bool) (And.intro (@AM.boxK_func) (And.intro (@AM.boxK_int) (And.intro (@AM.boxK_map) (And.intro (@AM.boxK_pointer) (And.intro (@AM.boxK_slice) (And.intro (@AM.boxK_string) (And.intro (@AM.fa_ptr) (And.intro (@fd_130_0) (And.intro (@AM.iaO_ok) (And.intro (AM.ia_slice el_128) (And.intro (@AM.ldO_agg) (And.intro (@AM.ldO_one) (And.intro (@AM.ld_ptr) (And.intro (AM.len_slice ul_128) (And.intro (@lk_128) (And.intro (@lk_133) (And.intro (@AM.op_binOp) (And.intro (@AM.op_box) (And.intro (@AM.op_call) (And.intro (@AM.op_fieldAddr) (And.intro (@AM.op_indexAddr) (And.intro (@AM.op_len) (And.intro (@AM.op_load) (And.intro (@AM.op_nilCheck) (And.intro (@AM.op_store) (And.intro (@AM.stO_agg) (And.intro (@AM.stO_bool) (And.intro (@AM.stO_int) (And.intro (@AM.stO_map) (And.intro (@AM.stO_pointer) (And.intro (@AM.stO_slice) (And.intro (@AM.stO_string) (And.intro (@AM.st_ptr) (@sz_133)))))))))))))))))))))))))))))))))))))))) := And.intro (@AM.bin_add) (And.intro (@AM.bin_leq) (And.intro (@AM.bin_lss) (And.intro (@AM.bin_mul) (And.intro (@AM.boxK_agg) (And.intro (@AM.boxK_bool) (And.intro (@AM.boxK_func) (And.intro (@AM.boxK_int) (And.intro (@AM.boxK_map) (And.intro (@AM.boxK_pointer) (And.intro (@AM.boxK_slice) (And.intro (@AM.boxK_string) (And.intro (@AM.fa_ptr) (And.intro (@fd_130_0) (And.intro (@AM.iaO_ok) (And.intro (AM.ia_slice el_128) (And.intro (@AM.ldO_agg) (And.intro (@AM.ldO_one) (And.intro (@AM.ld_ptr) (And.intro (AM.len_slice ul_128) (And.intro (@lk_128) (And.intro (@lk_133) (And.intro (@AM.op_binOp) (And.intro (@AM.op_box) (And.intro (@AM.op_call) (And.intro (@AM.op_fieldAddr) (And.intro (@AM.op_indexAddr) (And.intro (@AM.op_len) (And.intro (@AM.op_load) (And.intro (@AM.op_nilCheck) (And.intro (@AM.op_store) (And.intro (@AM.stO_agg) (And.intro (@AM.stO_bool) (And.intro (@AM.stO_int) (And.intro (@AM.stO_map) (And.intro (@AM.stO_pointer) (And.intro (@AM.stO_slice) (And.intro (@AM.stO_string) (And.intro (@AM.st_ptr) (@sz_133)))))))))))))))))))))))))))))))))))))))
theorem b113_RTP : type_of% (And.intro (@Option.isNone_none.{0}) (And.intro (@Option.isNone_some.{0}) (And.intro (AM.bin_pnil ul_142) (And.intro (@AM.fa_ptr) (And.intro (@fd_130_0) (And.intro (@AM.ldO_agg) (And.intro (@AM.ldO_one) (And.intro (@AM.ld_ptr) (And.intro (AM.len_slice ul_128) (And.intro (@lk_128) (And.intro (@AM.op_binOp) (And.intro (@AM.op_fieldAddr) (And.intro (@AM.op_len) (And.intro (@AM.op_load) (@AM.op_nilCheck))))))))))))))) := And.intro (@Option.isNone_none.{0}) (And.intro (@Option.isNone_some.{0}) (And.intro (AM.bin_pnil ul_142) (And.intro (@AM.fa_ptr) (And.intro (@fd_130_0) (And.intro (@AM.ldO_agg) (And.intro (@AM.ldO_one) (And.intro (@AM.ld_ptr) (And.intro (AM.len_slice ul_128) (And.intro (@lk_128) (And.intro (@AM.op_binOp) (And.intro (@AM.op_fieldAddr) (And.intro (@AM.op_len) (And.intro (@AM.op_load) (@AM.op_nilCheck))))))))))))))
theorem b105_RTP : type_of% (And.intro (@AM.alK_some) (And.intro (@al_133) (And.intro (@AM.bdV_some) (And.intro (@bd_133) (And.intro (@AM.bin_eql) (And.intro (@AM.fa_ptr) (And.intro (@fd_130_0) (And.intro (@AM.fillL_cons) (And.intro (@AM.fillL_nil) (And.intro (@AM.fillS_agg) (And.intro (@AM.fillS_bool) (And.intro (@AM.fillS_func) (And.intro (@AM.fillS_int) (And.intro (@AM.fillS_map) (And.intro (@AM.fillS_pointer) (And.intro (@AM.fillS_slice) (And.intro (@AM.fillS_string) (And.intro (@AM.iaO_ok) (And.intro (AM.ia_slice el_128) (And.intro (@AM.ldO_agg) (And.intro (@AM.ldO_one) (And.intro (@AM.ld_ptr) (And.intro (@lk_128) (And.intro (@lk_133) (And.intro (@AM.op_alloc) (And.intro (@AM.op_binOp) (And.intro (@AM.op_build) (And.intro (@AM.op_call) (And.intro (@AM.op_fieldAddr) (And.intro (@AM.op_indexAddr) (And.intro (@AM.op_load) (And.intro (@AM.op_nilCheck) (And.intro (@AM.op_store) (And.intro (@AM.resL_two) (And.intro (@AM.res_cell) (And.intro (@AM.stO_agg) (And.intro (@AM.stO_bool) (And.intro (@AM.stO_int) (And.intro (@AM.stO_map) (And.intro (@AM.stO_pointer) (And.intro (@AM.stO_slice) (And.intro (@AM.stO_string) (And.intro (@AM.st_ptr) (@sz_133)))))))))))))))))))))))))))))))))))))))))))) := And.intro (@AM.alK_some) (And.intro (@al_133) (And.intro (@AM.bdV_some) (And.intro (@bd_133) (And.intro (@AM.bin_eql) (And.intro (@AM.fa_ptr) (And.intro (@fd_130_0) (And.intro (@AM.fillL_cons) (And.intro (@AM.fillL_nil) (And.intro (@AM.fillS_agg) (And.intro (@AM.fillS_bool) (And.intro (@AM.fillS_func) (And.intro (@AM.fillS_int) (And.intro (@AM.fillS_map) (And.intro (@AM.fillS_pointer) (And.intro (@AM.fillS_slice) (And.intro (@AM.fillS_string) (And.intro (@AM.iaO_ok) (And.intro (AM.ia_slice el_128) (And.intro (@AM.ldO_agg) (And.intro (@AM.ldO_one) (And.intro (@AM.ld_ptr) (And.intro (@lk_128) (And.intro (@lk_133) (And.intro (@AM.op_alloc) (And.intro (@AM.op_binOp) (And.intro (@AM.op_build) (And.intro (@AM.op_call) (And.intro (@AM.op_fieldAddr) (And.intro (@AM.op_indexAddr) (And.intro (@AM.op_load) (And.intro (@AM.op_nilCheck) (And.intro (@AM.op_store) (And.intro (@AM.resL_two) (And.intro (@AM.res_cell) (And.intro (@AM.stO_agg) (And.intro (@AM.stO_bool) (And.intro (@AM.stO_int) (And.intro (@AM.stO_map) (And.intro (@AM.stO_pointer) (And.intro (@AM.stO_slice) (And.intro (@AM.stO_string) (And.intro (@AM.st_ptr) (@sz_133)))))))))))))))))))))))))))))))))))))))))))
theorem b95_RTP : type_of% (And.intro (@AM.alK_some) (And.intro (@al_133) (And.intro (@AM.bin_gtr) (And.intro (@AM.bin_sub) (And.intro (@AM.ex_tuple) (And.intro (@AM.fa_ptr) (And.intro (@fd_130_0) (And.intro (@AM.iaO_ok) (And.intro (AM.ia_slice el_128) (And.intro (@AM.ldO_agg) (And.intro (@AM.ldO_one) (And.intro (@AM.ld_ptr) (And.intro (AM.len_slice ul_128) (And.intro (@lk_128) (And.intro (@lk_133) (And.intro (@AM.op_alloc) (And.intro (@AM.op_binOp) (And.intro (@AM.op_call) (And.intro (@AM.op_extract) (And.intro (@AM.op_fieldAddr) (And.intro (@AM.op_indexAddr) (And.intro (@AM.op_len) (And.intro (@AM.op_load) (And.intro (@AM.op_nilCheck) (And.intro (@AM.op_slice) (And.intro (@AM.op_store) (And.intro (@AM.resL_two) (And.intro (@AM.res_cell) (And.intro (@AM.stO_agg) (And.intro (@AM.stO_bool) (And.intro (@AM.stO_int) (And.intro (@AM.stO_map) (And.intro (@AM.stO_pointer) (And.intro (@AM.stO_slice) (And.intro (@AM.stO_string) (And.intro (@AM.st_ptr) (And.intro (@sz_128) (@sz_133)))))))))))))))))))))))))))))))))))))) := And.intro (@AM.alK_some) (And.intro (@al_133) (And.intro (@AM.bin_gtr) (And.intro (@AM.bin_sub) (And.intro (@AM.ex_tuple) (And.intro (@AM.fa_ptr) (And.intro (@fd_130_0) (And.intro (@AM.iaO_ok) (And.intro (AM.ia_slice el_128) (And.intro (@AM.ldO_agg) (And.intro (@AM.ldO_one) (And.intro (@AM.ld_ptr) (And.intro (AM.len_slice ul_128) (And.intro (@lk_128) (And.intro (@lk_133) (And.intro (@AM.op_alloc) (And.intro (@AM.op_binOp) (And.intro (@AM.op_call) (And.intro (@AM.op_extract) (And.intro (@AM.op_fieldAddr) (And.intro (@AM.op_indexAddr) (And.intro (@AM.op_len) (And.intro (@AM.op_load) (And.intro (@AM.op_nilCheck) (And.intro (@AM.op_slice) (And.intro (@AM.op_store) (And.intro (@AM.resL_two) (And.intro (@AM.res_cell) (And.intro (@AM.stO_agg) (And.intro (@AM.stO_bool) (And.intro (@AM.stO_int) (And.intro (@AM.stO_map) (And.intro (@AM.stO_pointer) (And.intro (@AM.stO_slice) (And.intro (@AM.stO_string) (And.intro (@AM.st_ptr) (And.intro (@sz_128) (@sz_133)))))))))))))))))))))))))))))))))))))


/-! ### Taking the first one out -/
set_option maxHeartbeats 8000000 in
theorem down_w {h : AHeap} {pid n : Nat} {l0 : List AM.It} {va : Option Addr} {vc : Nat} (g : h.get pid = some (.cells [.slice va n vc] 130 false)) (o : Ow h 133 3 (.slice va n vc) n (l0.flatMap AM.encI)) (hln : l0.length = n) (lo : h.low ≤ pid) (na : ∀ id, idOf (.slice va n vc) id → pid < id) (hl : h.low ≤ h.next) (hn : n ≤ 4000000) (q : AM.It) (dn : AM.Dn l0 0 q) {Q : VQ}
    (hq : ∀ u (l' : List AM.It) h', h'.get pid = some (.cells [.slice va n vc] 130 false) → Ow h' 133 3 (.slice va n vc) n (l'.flatMap AM.encI) → AM.HeapP l' → l'.Perm (l0.set 0 q) → Fr (idOf (.slice va n vc)) h h' → Q u h') : W 106 [pv pid, .agg #[.int .i64 q.1, .int .i64 0, .int .i64 q.2]] h Q := by
  have lt0 := AM.get_some_lt g
  refine AM.enter hp (fn := Tryd.f106) (rs := []) (nt := 78) (by kernel_rfl) Tryd.func106 rfl rfl rfl (by kernel_rfl) ?_
  (repeat' (first | (simp (maxSteps := 1000000) (disch := first | omega | (simp only [AM.DB, List.length_set, List.length_map]; first | done | omega)) only [AM.RB, Nat.reduceAdd, Nat.reduceMul, Nat.reduceEqDiff, reduceCtorEq, b106_RTP]) | refine AM.drawW_fine hp (by kernel_rfl) (by kernel_rfl) (by kernel_rfl) ?_ | refine AM.opW_tied (by kernel_rfl) ?_ | refine AM.opW_untied (by kernel_rfl) ?_))
  generalize hE_ : AHeap.alloc h _ = h1; obtain ⟨g1, fr1, n1, l1⟩ := AM.new_get hE_; clear hE_
  have o1 := o.fr0 fr1
  have gp1 := g.fr0 fr1
  have na1 : ∀ id, idOf (.slice va n vc) id → pid < id ∧ ¬ id = h.next := fun id e => by have := na id e; have := o.lt e; exact ⟨by omega, by omega⟩
  (repeat' (first | (simp (maxSteps := 1000000) (disch := first | omega | (simp only [AM.DB, List.length_set, List.length_map]; first | done | omega)) only [AM.RB, Nat.reduceAdd, Nat.reduceMul, Nat.reduceEqDiff, reduceCtorEq, b106_RTP]) | refine AM.drawW_fine hp (by kernel_rfl) (by kernel_rfl) (by kernel_rfl) ?_ | refine AM.opW_tied (by kernel_rfl) ?_ | refine AM.opW_untied (by kernel_rfl) ?_))
  refine AM.loop_w hp 78 (fun z : Nat × List AM.It => [(0, pv pid), (3, pv h.next), (4, .int .i64 z.1)])
    (fun z h' => AM.Dn z.2 z.1 q ∧ z.2.length = n ∧ (z.2.set z.1 q).Perm (l0.set 0 q) ∧ Ow h' 133 3 (.slice va n vc) n (z.2.flatMap AM.encI) ∧ Fr (idOf (.slice va n vc)) h1 h') (fun z => n - z.1) (by kernel_rfl) (0, l0) ?_ ?_ ?_
  · simp (maxSteps := 1000000) (disch := first | omega | (simp only [AM.DB, List.length_set, List.length_map]; first | done | omega)) only [AM.RB, Nat.reduceAdd, Nat.reduceMul, Nat.reduceEqDiff, reduceCtorEq, b106_RTP]
    first | rfl | skip
  · exact ⟨dn, hln, List.Perm.refl _, o1, Fr.refl _ _⟩
  rintro ⟨i, l⟩ h5 ρ ⟨up, hll, pm, o5, fr5⟩
  simp only at up hll pm o5 ⊢
  have hi := up.lt
  have g15 := fr5.get g1 (fun e => (na1 _ e).2 rfl)
  have g45 := fr5.get gp1 (fun e => by have := (na1 _ e).1; omega)
  have lo5 := fr5.low
  have nx5 := fr5.next
  have r5 := o5.rd
  have fin : ∀ h8 (o8 : Ow h8 133 3 (.slice va n vc) n ((l.set i q).flatMap AM.encI)) (fr8 : Fr (idOf (.slice va n vc)) h1 h8) (hh : AM.HeapP (l.set i q)) (u : Value), Q u h8 := fun h8 o8 fr8 hh u =>
    hq u (l.set i q) h8 (fr8.get gp1 (fun e => by have := (na1 _ e).1; omega)) o8 hh pm (fr1.weak.trans fr8)
  have t1 : (2 * (i : Int) + 1).toNat = 2 * i + 1 := by omega
  have t2 : (2 * (i : Int) + 1 + 1).toNat = 2 * i + 2 := by omega
  (repeat' (first | (simp (maxSteps := 1000000) (disch := first | omega | (simp only [AM.DB, List.length_set, List.length_map]; first | done | omega)) only [AM.RB, Nat.reduceAdd, Nat.reduceMul, Nat.reduceEqDiff, reduceCtorEq, b106_RTP, g45, AM.wrap_i64]) | refine AM.drawW_fine hp (by kernel_rfl) (by kernel_rfl) (by kernel_rfl) ?_ | refine AM.opW_tied (by kernel_rfl) ?_ | refine AM.opW_untied (by kernel_rfl) ?_))
  refine AM.condV_split (fun hlt => ?_) (fun hlt => ?_)
  case' refine_2 =>
    (repeat' (first | (simp (maxSteps := 1000000) (disch := first | omega | (simp only [AM.DB, List.length_set, List.length_map]; first | done | omega)) only [AM.RB, Nat.reduceAdd, Nat.reduceMul, Nat.reduceEqDiff, reduceCtorEq, b106_RTP, g45, g15, r5.ia el_128, Int.toNat_natCast]) | refine AM.drawW_fine hp (by kernel_rfl) (by kernel_rfl) (by kernel_rfl) ?_ | refine AM.opW_tied (by kernel_rfl) ?_ | refine AM.opW_untied (by kernel_rfl) ?_))
    refine o5.stg (l := AM.encI q) sz_133 (j := i) (by omega) rfl rfl fun h6 o6 fr6 n6 => ?_
    rw [AM.flat_set AM.encI_len (by omega) l i q hi] at o6
    (repeat' (first | (simp (maxSteps := 1000000) (disch := first | omega | (simp only [AM.DB, List.length_set, List.length_map]; first | done | omega)) only [AM.RB, Nat.reduceAdd, Nat.reduceMul, Nat.reduceEqDiff, reduceCtorEq, b106_RTP]) | refine AM.drawW_fine hp (by kernel_rfl) (by kernel_rfl) (by kernel_rfl) ?_ | refine AM.opW_tied (by kernel_rfl) ?_ | refine AM.opW_untied (by kernel_rfl) ?_))
    exact fin _ o6 (fr5.trans fr6) (up.done (.inl (by omega))) _
  have hb : 2 * i + 1 < l.length := by omega
  obtain ⟨p1, p2, p3, p4⟩ := AM.lesser_at hb
  by_cases c2 : 2 * (i : Int) + 1 + 1 < n
  case' neg =>
    have d2 : decide (2 * (i : Int) + 1 + 1 < (n : Int)) = false := decide_eq_false c2
    (repeat' (first | (simp (maxSteps := 1000000) (disch := first | omega | (simp only [AM.DB, List.length_set, List.length_map]; first | done | omega)) only [AM.RB, Nat.reduceAdd, Nat.reduceMul, Nat.reduceEqDiff, reduceCtorEq, b106_RTP, g45, AM.wrap_i64, d2]) | refine AM.drawW_fine hp (by kernel_rfl) (by kernel_rfl) (by kernel_rfl) ?_ | refine AM.opW_tied (by kernel_rfl) ?_ | refine AM.opW_untied (by kernel_rfl) ?_))
    have ev : 2 * (i : Int) + 1 = (AM.lesser l i : Nat) := by unfold AM.lesser; rw [if_neg (fun t => by have := t.1; omega)]; omega
    rw [ev]
    obtain ⟨h6, he6⟩ : ∃ h6, h5 = h6 := ⟨h5, rfl⟩
    have fr6 : Fr none' h5 h6 := by rw [← he6]; exact Fr.refl _ _
    rw [he6]
  case' pos =>
    have d2 : decide (2 * (i : Int) + 1 + 1 < (n : Int)) = true := decide_eq_true c2
    (repeat' (first | (simp (maxSteps := 1000000) (disch := first | omega | (simp only [AM.DB, List.length_set, List.length_map]; first | done | omega)) only [AM.RB, Nat.reduceAdd, Nat.reduceMul, Nat.reduceEqDiff, reduceCtorEq, b106_RTP, g45, AM.wrap_i64, d2, r5.ia el_128, r5.lds AM.encI_len lk_133 hll AM.z0, t1, t2]) | refine AM.drawW_fine hp (by kernel_rfl) (by kernel_rfl) (by kernel_rfl) ?_ | refine AM.opW_tied (by kernel_rfl) ?_ | refine AM.opW_untied (by kernel_rfl) ?_))
    refine pcmp_w (AM.at' l (2 * i + 2)) (AM.at' l (2 * i + 1)) (by omega) fun h6 fr6 => ?_
    rcases Classical.em (AM.leI (AM.at' l (2 * i + 1)) (AM.at' l (2 * i + 2))) with c3 | c3
  case' pos.inl =>
    have d3 : decide (AM.cmpI (AM.at' l (2 * i + 2)) (AM.at' l (2 * i + 1)) < 0) = false := decide_eq_false fun t => (AM.cmpI_lt _ _).1 t c3
    have ev : 2 * (i : Int) + 1 = (AM.lesser l i : Nat) := by unfold AM.lesser; rw [if_neg (fun t => t.2 c3)]; omega
    (repeat' (first | (simp (maxSteps := 1000000) (disch := first | omega | (simp only [AM.DB, List.length_set, List.length_map]; first | done | omega)) only [AM.RB, Nat.reduceAdd, Nat.reduceMul, Nat.reduceEqDiff, reduceCtorEq, b106_RTP, d3]) | refine AM.drawW_fine hp (by kernel_rfl) (by kernel_rfl) (by kernel_rfl) ?_ | refine AM.opW_tied (by kernel_rfl) ?_ | refine AM.opW_untied (by kernel_rfl) ?_))
    rw [ev]
  case' pos.inr =>
    have d3 : decide (AM.cmpI (AM.at' l (2 * i + 2)) (AM.at' l (2 * i + 1)) < 0) = true := decide_eq_true ((AM.cmpI_lt _ _).2 c3)
    have ev : 2 * (i : Int) + 1 + 1 = (AM.lesser l i : Nat) := by unfold AM.lesser; rw [if_pos ⟨by omega, c3⟩]; omega
    (repeat' (first | (simp (maxSteps := 1000000) (disch := first | omega | (simp only [AM.DB, List.length_set, List.length_map]; first | done | omega)) only [AM.RB, Nat.reduceAdd, Nat.reduceMul, Nat.reduceEqDiff, reduceCtorEq, b106_RTP, d3, AM.wrap_i64]) | refine AM.drawW_fine hp (by kernel_rfl) (by kernel_rfl) (by kernel_rfl) ?_ | refine AM.opW_tied (by kernel_rfl) ?_ | refine AM.opW_untied (by kernel_rfl) ?_))
    rw [ev]
  all_goals
    have o6 := o5.fr0 fr6
    have r6 := o6.rd
    have g46 := g45.fr0 fr6
    have g16 := g15.fr0 fr6
    have lo6 := fr6.low
    have nx6 := fr6.next
    (repeat' (first | (simp (maxSteps := 1000000) (disch := first | omega | (simp only [AM.DB, List.length_set, List.length_map]; first | done | omega)) only [AM.RB, Nat.reduceAdd, Nat.reduceMul, Nat.reduceEqDiff, reduceCtorEq, b106_RTP, g46, g16, r6.ia el_128, r6.lds AM.encI_len lk_133 hll AM.z0, Int.toNat_natCast]) | refine AM.drawW_fine hp (by kernel_rfl) (by kernel_rfl) (by kernel_rfl) ?_ | refine AM.opW_tied (by kernel_rfl) ?_ | refine AM.opW_untied (by kernel_rfl) ?_))
    refine pcmp_w q (AM.at' l (AM.lesser l i)) (by omega) fun h7 fr7 => ?_
    have o7 := o6.fr0 fr7
    have r7 := o7.rd
    have g47 := g46.fr0 fr7
    have g17 := g16.fr0 fr7
    have lo7 := fr7.low
    have nx7 := fr7.next
    have fr57 := (fr5.trans fr6.weak).trans fr7.weak
    by_cases c : AM.leI q (AM.at' l (AM.lesser l i))
    · have d1 : decide (AM.cmpI q (AM.at' l (AM.lesser l i)) ≤ 0) = true := decide_eq_true ((AM.cmpI_le _ _).2 c)
      (repeat' (first | (simp (maxSteps := 1000000) (disch := first | omega | (simp only [AM.DB, List.length_set, List.length_map]; first | done | omega)) only [AM.RB, Nat.reduceAdd, Nat.reduceMul, Nat.reduceEqDiff, reduceCtorEq, b106_RTP, d1, g47, g17, r7.ia el_128, Int.toNat_natCast]) | refine AM.drawW_fine hp (by kernel_rfl) (by kernel_rfl) (by kernel_rfl) ?_ | refine AM.opW_tied (by kernel_rfl) ?_ | refine AM.opW_untied (by kernel_rfl) ?_))
      refine o7.stg (l := AM.encI q) sz_133 (j := i) (by omega) rfl rfl fun h8 o8 fr8 n8 => ?_
      rw [AM.flat_set AM.encI_len (by omega) l i q hi] at o8
      (repeat' (first | (simp (maxSteps := 1000000) (disch := first | omega | (simp only [AM.DB, List.length_set, List.length_map]; first | done | omega)) only [AM.RB, Nat.reduceAdd, Nat.reduceMul, Nat.reduceEqDiff, reduceCtorEq, b106_RTP]) | refine AM.drawW_fine hp (by kernel_rfl) (by kernel_rfl) (by kernel_rfl) ?_ | refine AM.opW_tied (by kernel_rfl) ?_ | refine AM.opW_untied (by kernel_rfl) ?_))
      exact fin _ o8 (fr57.trans fr8) (up.done (.inr c)) _
    · have d1 : decide (AM.cmpI q (AM.at' l (AM.lesser l i)) ≤ 0) = false := decide_eq_false fun t => c ((AM.cmpI_le _ _).1 t)
      (repeat' (first | (simp (maxSteps := 1000000) (disch := first | omega | (simp only [AM.DB, List.length_set, List.length_map]; first | done | omega)) only [AM.RB, Nat.reduceAdd, Nat.reduceMul, Nat.reduceEqDiff, reduceCtorEq, b106_RTP, d1, g47, g17, r7.ia el_128, r7.lds AM.encI_len lk_133 hll AM.z0, Int.toNat_natCast]) | refine AM.drawW_fine hp (by kernel_rfl) (by kernel_rfl) (by kernel_rfl) ?_ | refine AM.opW_tied (by kernel_rfl) ?_ | refine AM.opW_untied (by kernel_rfl) ?_))
      refine o7.stg (l := AM.encI (AM.at' l (AM.lesser l i))) sz_133 (j := i) (by omega) rfl rfl fun h8 o8 fr8 n8 => ?_
      rw [AM.flat_set AM.encI_len (by omega) l i _ hi] at o8
      (repeat' (first | (simp (maxSteps := 1000000) (disch := first | omega | (simp only [AM.DB, List.length_set, List.length_map]; first | done | omega)) only [AM.RB, Nat.reduceAdd, Nat.reduceMul, Nat.reduceEqDiff, reduceCtorEq, b106_RTP]) | refine AM.drawW_fine hp (by kernel_rfl) (by kernel_rfl) (by kernel_rfl) ?_ | refine AM.opW_tied (by kernel_rfl) ?_ | refine AM.opW_untied (by kernel_rfl) ?_))
      refine ⟨(AM.lesser l i, l.set i (AM.at' l (AM.lesser l i))), by simp only; omega, ?_, up.move hb c, by simp only; rw [List.length_set]; exact hll, (AM.swap_perm hi p3 q).trans pm, o8, fr57.trans fr8⟩
      simp (maxSteps := 1000000) (disch := first | omega | (simp only [AM.DB, List.length_set, List.length_map]; first | done | omega)) only [AM.RB, Nat.reduceAdd, Nat.reduceMul, Nat.reduceEqDiff, reduceCtorEq, b106_RTP]
      first | rfl | skip

theorem plen_w {h : AHeap} {pid n : Nat} {va : Option Addr} {vc : Nat} (g : h.get pid = some (.cells [.slice va n vc] 130 false)) {Q : VQ} (hq : Q (.int .i64 n) h) : W 113 [pv pid] h Q := by
  refine AM.enter hp (fn := Tryd.f113) (rs := [.tmp 2]) (nt := 10) (by kernel_rfl) Tryd.func113 rfl rfl rfl (by kernel_rfl) ?_
  (first | (simp (maxSteps := 1000000) (disch := first | omega | (simp only [AM.DB, List.length_set, List.length_map]; first | done | omega)) only [AM.RB, Nat.reduceAdd, Nat.reduceMul, Nat.reduceEqDiff, reduceCtorEq, b113_RTP, g]) | skip)
  exact hq
set_option maxHeartbeats 8000000 in
theorem top_w {h : AHeap} {pid : Nat} {P : List AM.It} {v : Value} (x : Pl h pid P v) (hl : h.low ≤ h.next) (hn : P.length ≤ 4000000) {Q : VQ}
    (h0 : P = [] → ∀ h', Fr none' h h' → Q (.tuple #[.agg #[.int .i64 0, .int .i64 0, .int .i64 0], .bool false]) h')
    (h1' : P ≠ [] → ∀ h', Fr none' h h' → Q (.tuple #[.agg #[.int .i64 (AM.at' P 0).1, .int .i64 0, .int .i64 (AM.at' P 0).2], .bool true]) h') : W 105 [pv pid] h Q := by
  obtain ⟨va, vc, hv⟩ := x.o.form
  subst hv
  have lt0 := AM.get_some_lt x.g
  refine AM.enter hp (fn := Tryd.f105) (rs := [.cell 2 133, .tmp 3]) (nt := 14) (by kernel_rfl) Tryd.func105 rfl rfl rfl (by kernel_rfl) ?_
  (repeat' (first | (simp (maxSteps := 1000000) (disch := first | omega | (simp only [AM.DB, List.length_set, List.length_map]; first | done | omega)) only [AM.RB, Nat.reduceAdd, Nat.reduceMul, Nat.reduceEqDiff, reduceCtorEq, b105_RTP]) | refine AM.build_w ?_))
  generalize hE_ : AHeap.alloc h _ = h1; obtain ⟨g1, fr1, n1, l1⟩ := AM.new_get hE_; clear hE_
  have x1 := x.fr0 fr1
  have xg := x1.g
  refine plen_w xg ?_
  have lo1 : h1.low ≤ h.next := by omega
  by_cases hP : P = []
  · have d0 : decide ((P.length : Int) = 0) = true := decide_eq_true (by rw [hP]; rfl)
    (repeat' (first | (simp (maxSteps := 1000000) (disch := first | omega | (simp only [AM.DB, List.length_set, List.length_map]; first | done | omega)) only [AM.RB, Nat.reduceAdd, Nat.reduceMul, Nat.reduceEqDiff, reduceCtorEq, b105_RTP, d0, g1]) | refine AM.build_w ?_))
    generalize hE_ : AHeap.put h1 _ _ = h2; obtain ⟨g2, fr2, n2, l2⟩ := AM.put_get hE_ (by omega); clear hE_
    (repeat' (first | (simp (maxSteps := 1000000) (disch := first | omega | (simp only [AM.DB, List.length_set, List.length_map]; first | done | omega)) only [AM.RB, Nat.reduceAdd, Nat.reduceMul, Nat.reduceEqDiff, reduceCtorEq, b105_RTP, g2]) | refine AM.build_w ?_))
    exact h0 hP _ (fr1.fresh fr2 fun id e => by omega)
  · have hp0 : 0 < P.length := List.length_pos_iff.2 hP
    have d0 : decide ((P.length : Int) = 0) = false := decide_eq_false (by omega)
    have r1 := x1.o.rd
    have t0 : Int.toNat 0 = 0 := rfl
    (repeat' (first | (simp (maxSteps := 1000000) (disch := first | omega | (simp only [AM.DB, List.length_set, List.length_map]; first | done | omega)) only [AM.RB, Nat.reduceAdd, Nat.reduceMul, Nat.reduceEqDiff, reduceCtorEq, b105_RTP, d0, xg, r1.ia el_128, r1.lds AM.encI_len lk_133 rfl AM.z0, t0, g1, AM.encI]) | refine AM.build_w ?_))
    generalize hE_ : AHeap.put h1 _ _ = h2; obtain ⟨g2, fr2, n2, l2⟩ := AM.put_get hE_ (by omega); clear hE_
    (repeat' (first | (simp (maxSteps := 1000000) (disch := first | omega | (simp only [AM.DB, List.length_set, List.length_map]; first | done | omega)) only [AM.RB, Nat.reduceAdd, Nat.reduceMul, Nat.reduceEqDiff, reduceCtorEq, b105_RTP, g2]) | refine AM.build_w ?_))
    exact h1' hP _ (fr1.fresh fr2 fun id e => by omega)
set_option maxHeartbeats 8000000 in
theorem pop_w {h : AHeap} {pid : Nat} {P : List AM.It} {v : Value} (x : Pl h pid P v) (hP : AM.HeapP P) (hl : h.low ≤ h.next) (hn : P.length ≤ 4000000) {Q : VQ}
    (h0 : P = [] → ∀ h', Fr none' h h' → Q (.tuple #[.agg #[.int .i64 0, .int .i64 0, .int .i64 0], .bool false]) h')
    (h1 : P ≠ [] → ∀ P' v' h', Pl h' pid P' v' → AM.HeapP P' → P.Perm (AM.at' P 0 :: P') → Fr (fun id => id = pid ∨ idOf v id) h h' → (∀ id, idOf v' id → idOf v id) → Q (.tuple #[.agg #[.int .i64 (AM.at' P 0).1, .int .i64 0, .int .i64 (AM.at' P 0).2], .bool true]) h') : W 95 [pv pid] h Q := by
  obtain ⟨va, vc, hv⟩ := x.o.form
  subst hv
  have lt0 := AM.get_some_lt x.g
  have lo0 := x.lo
  refine AM.enter hp (fn := Tryd.f95) (rs := [.cell 2 133, .tmp 3]) (nt := 50) (by kernel_rfl) Tryd.func95 rfl rfl rfl (by kernel_rfl) ?_
  (repeat' (first | (simp (maxSteps := 1000000) (disch := first | omega | (simp only [AM.DB, List.length_set, List.length_map]; first | done | omega)) only [AM.RB, Nat.reduceAdd, Nat.reduceMul, Nat.reduceEqDiff, reduceCtorEq, b95_RTP]) | refine AM.drawW_fine hp (by kernel_rfl) (by kernel_rfl) (by kernel_rfl) ?_ | refine AM.opW_tied (by kernel_rfl) ?_ | refine AM.opW_untied (by kernel_rfl) ?_))
  generalize hE_ : AHeap.alloc h _ = h2; obtain ⟨g2, fr2, n2, l2⟩ := AM.new_get hE_; clear hE_
  have x2 := x.fr0 fr2
  refine top_w x2 (by omega) hn (fun hP0 h3 fr3 => ?_) (fun hP0 h3 fr3 => ?_)
  · have hl3 := (fr2.trans fr3).hl hl
    (repeat' (first | (simp (maxSteps := 1000000) (disch := first | omega | (simp only [AM.DB, List.length_set, List.length_map]; first | done | omega)) only [AM.RB, Nat.reduceAdd, Nat.reduceMul, Nat.reduceEqDiff, reduceCtorEq, b95_RTP]) | refine AM.drawW_fine hp (by kernel_rfl) (by kernel_rfl) (by kernel_rfl) ?_ | refine AM.opW_tied (by kernel_rfl) ?_ | refine AM.opW_untied (by kernel_rfl) ?_))
    generalize hE_ : AHeap.put (AHeap.alloc h3 _) _ _ = h4; obtain ⟨g4, fr4, n4, l4⟩ := AM.box_get hE_ (by omega); clear hE_
    have g24 := (g2.fr0 fr3).fr0 fr4
    have lo4 : h4.low ≤ h.next := by have := fr3.low; omega
    have lt4 := AM.get_some_lt g24
    (repeat' (first | (simp (maxSteps := 1000000) (disch := first | omega | (simp only [AM.DB, List.length_set, List.length_map]; first | done | omega)) only [AM.RB, Nat.reduceAdd, Nat.reduceMul, Nat.reduceEqDiff, reduceCtorEq, b95_RTP, g4, g24]) | refine AM.drawW_fine hp (by kernel_rfl) (by kernel_rfl) (by kernel_rfl) ?_ | refine AM.opW_tied (by kernel_rfl) ?_ | refine AM.opW_untied (by kernel_rfl) ?_))
    generalize hE_ : AHeap.put h4 _ _ = h5; obtain ⟨g5, fr5, n5, l5⟩ := AM.put_get hE_ (by omega); clear hE_
    (repeat' (first | (simp (maxSteps := 1000000) (disch := first | omega | (simp only [AM.DB, List.length_set, List.length_map]; first | done | omega)) only [AM.RB, Nat.reduceAdd, Nat.reduceMul, Nat.reduceEqDiff, reduceCtorEq, b95_RTP, g5]) | refine AM.drawW_fine hp (by kernel_rfl) (by kernel_rfl) (by kernel_rfl) ?_ | refine AM.opW_tied (by kernel_rfl) ?_ | refine AM.opW_untied (by kernel_rfl) ?_))
    exact h0 hP0 _ (((fr2.trans fr3).trans fr4).fresh fr5 fun id e => by omega)
  · have hp0 : 0 < P.length := List.length_pos_iff.2 hP0
    have hl3 := (fr2.trans fr3).hl hl
    have x3 := x2.fr0 fr3
    have xg3 := x3.g
    have r3 := x3.o.rd
    have tn : ((P.length : Int) - 1).toNat = P.length - 1 := by omega
    have cn : ((P.length : Int) - 1) = ((P.length - 1 : Nat) : Int) := by omega
    (repeat' (first | (simp (maxSteps := 1000000) (disch := first | omega | (simp only [AM.DB, List.length_set, List.length_map]; first | done | omega)) only [AM.RB, Nat.reduceAdd, Nat.reduceMul, Nat.reduceEqDiff, reduceCtorEq, b95_RTP]) | refine AM.drawW_fine hp (by kernel_rfl) (by kernel_rfl) (by kernel_rfl) ?_ | refine AM.opW_tied (by kernel_rfl) ?_ | refine AM.opW_untied (by kernel_rfl) ?_))
    generalize hE_ : AHeap.put (AHeap.alloc h3 _) _ _ = h4; obtain ⟨g4, fr4, n4, l4⟩ := AM.box_get hE_ (by omega); clear hE_
    have x4 := x3.fr0 fr4
    have xg4 := x4.g
    have r4 := x4.o.rd
    (repeat' (first | (simp (maxSteps := 1000000) (disch := first | omega | (simp only [AM.DB, List.length_set, List.length_map]; first | done | omega)) only [AM.RB, Nat.reduceAdd, Nat.reduceMul, Nat.reduceEqDiff, reduceCtorEq, b95_RTP, xg4, AM.wrap_i64, r4.ia el_128, r4.lds AM.encI_len lk_133 rfl AM.z0, tn, AM.encI]) | refine AM.drawW_fine hp (by kernel_rfl) (by kernel_rfl) (by kernel_rfl) ?_ | refine AM.opW_tied (by kernel_rfl) ?_ | refine AM.opW_untied (by kernel_rfl) ?_))
    have hl4 : h4.low ≤ h4.next := by have := fr4.low; omega
    generalize hE_ : AHeap.put (AHeap.alloc h4 _) _ _ = h5; obtain ⟨g5, fr5, n5, l5⟩ := AM.box_get hE_ (by omega); clear hE_
    have x5 := x4.fr0 fr5
    have xg5 := x5.g
    have g25 := ((g2.fr0 fr3).fr0 fr4).fr0 fr5
    have g45 := g4.fr0 fr5
    have na5 := x5.na
    have fr05 := (((fr2.trans fr3).trans fr4).trans fr5)
    have o5 := x5.o
    rcases x5.o with ⟨_, e, _⟩ | ⟨id, off, cap, c, o, e, hnc, hg, hf, hd, hlo⟩
    · exact absurd e (by omega)
    cases e
    have lt5 := AM.get_some_lt xg5
    have lo5 : h5.low ≤ pid := x5.lo
    have oc := o5.cut (i := 0) (j := P.length - 1) (m := vc) (by omega) (by omega) (by omega) (by omega)
    simp only [Nat.zero_mul, Nat.add_zero, Nat.sub_zero, List.drop_zero] at oc
    rw [AM.flat_take AM.encI_len] at oc
    (repeat' (first | (simp (maxSteps := 1000000) (disch := first | omega | (simp only [AM.DB, List.length_set, List.length_map]; first | done | omega)) only [AM.RB, Nat.reduceAdd, Nat.reduceMul, Nat.reduceEqDiff, reduceCtorEq, b95_RTP, xg5, AM.wrap_i64, AM.slc el_128 hg, AM.slbs_hi_i, tn, Nat.sub_zero, Nat.zero_mul, Nat.add_zero]) | refine AM.drawW_fine hp (by kernel_rfl) (by kernel_rfl) (by kernel_rfl) ?_ | refine AM.opW_tied (by kernel_rfl) ?_ | refine AM.opW_untied (by kernel_rfl) ?_))
    generalize hE_ : AHeap.put h5 _ _ = h6; obtain ⟨g6, fr6, n6, l6⟩ := AM.put_get hE_ (by omega); clear hE_
    have oc6 := oc.fr fr6 (fun j e t => by have e : j = id := e; have := na5 id rfl; omega)
    have g26 := fr6.get g25 (fun e => by omega)
    have g46 := fr6.get g45 (fun e => by have := fr3.next; omega)
    have g56 := fr6.get g5 (fun e => by have := fr3.next; omega)
    have hid : id < h.next := x.o.lt (id := id) rfl
    have npid := na5 id rfl
    have n23 := fr3.next
    have tln : (P.take (P.length - 1)).length = P.length - 1 := by rw [List.length_take]; omega
    have fr06 : Fr (fun j => j = pid ∨ idOf (.slice (some ⟨id, off, none⟩) P.length vc) j) h h6 := fr05.weak.then fr6 fun j _ e => .inl e
    have low6 := fr06.low
    have nx6 := fr06.next
    refine AM.condV_split (fun hlt => ?_) (fun hlt => ?_)
    · have h2le : 2 ≤ P.length := by omega
      (repeat' (first | (simp (maxSteps := 1000000) (disch := first | omega | (simp only [AM.DB, List.length_set, List.length_map]; first | done | omega)) only [AM.RB, Nat.reduceAdd, Nat.reduceMul, Nat.reduceEqDiff, reduceCtorEq, b95_RTP, g56]) | refine AM.drawW_fine hp (by kernel_rfl) (by kernel_rfl) (by kernel_rfl) ?_ | refine AM.opW_tied (by kernel_rfl) ?_ | refine AM.opW_untied (by kernel_rfl) ?_))
      refine down_w g6 oc6 tln (by omega) (fun j e => by have e : j = id := e; omega) (by omega) (by omega) (AM.at' P (P.length - 1)) (AM.Dn.start (hP.take _) (by omega) _) fun u l' h7 gp7 o7 hh7 pm7 fr7 => ?_
      have g27 := fr7.get g26 (fun e => by have e : h.next = id := e; omega)
      have g47 := fr7.get g46 (fun e => by have e : h3.next = id := e; omega)
      have lo7 : h7.low ≤ h.next := by have := fr7.low; omega
      have ll : l'.length = P.length - 1 := by rw [pm7.length_eq, List.length_set]; exact tln
      have lt7 := AM.get_some_lt g27
      have l7 := fr7.low
      (repeat' (first | (simp (maxSteps := 1000000) (disch := first | omega | (simp only [AM.DB, List.length_set, List.length_map]; first | done | omega)) only [AM.RB, Nat.reduceAdd, Nat.reduceMul, Nat.reduceEqDiff, reduceCtorEq, b95_RTP, g47, g27]) | refine AM.drawW_fine hp (by kernel_rfl) (by kernel_rfl) (by kernel_rfl) ?_ | refine AM.opW_tied (by kernel_rfl) ?_ | refine AM.opW_untied (by kernel_rfl) ?_))
      generalize hE_ : AHeap.put h7 _ _ = h8; obtain ⟨g8, fr8, n8, l8⟩ := AM.put_get hE_ (by omega); clear hE_
      (repeat' (first | (simp (maxSteps := 1000000) (disch := first | omega | (simp only [AM.DB, List.length_set, List.length_map]; first | done | omega)) only [AM.RB, Nat.reduceAdd, Nat.reduceMul, Nat.reduceEqDiff, reduceCtorEq, b95_RTP, g8]) | refine AM.drawW_fine hp (by kernel_rfl) (by kernel_rfl) (by kernel_rfl) ?_ | refine AM.opW_tied (by kernel_rfl) ?_ | refine AM.opW_untied (by kernel_rfl) ?_))
      have pmP : P.Perm (AM.at' P 0 :: l') := by
        have := (pm7.trans (AM.tail_perm h2le)).symm
        exact (List.Perm.of_eq (AM.head_tail hP0)).trans (this.cons _)
      refine h1 hP0 l' (.slice (some ⟨id, off, none⟩) (P.length - 1) vc) h8 ⟨fr8.get gp7 (fun e => by omega), ?_, ?_, fun j e => by have e : j = id := e; omega⟩ hh7 pmP ?_ (fun j e => e)
      · rw [ll]; exact o7.fr fr8 (fun j e t => by have e : j = id := e; omega)
      · omega
      · refine ((fr06.then fr7 fun j _ e => .inr e).then fr8 fun j hj e => ?_)
        omega
    · have h1e : P.length = 1 := by omega
      have lo6' : h6.low ≤ h.next := by omega
      have lt6 := AM.get_some_lt g26
      (repeat' (first | (simp (maxSteps := 1000000) (disch := first | omega | (simp only [AM.DB, List.length_set, List.length_map]; first | done | omega)) only [AM.RB, Nat.reduceAdd, Nat.reduceMul, Nat.reduceEqDiff, reduceCtorEq, b95_RTP, g46, g26]) | refine AM.drawW_fine hp (by kernel_rfl) (by kernel_rfl) (by kernel_rfl) ?_ | refine AM.opW_tied (by kernel_rfl) ?_ | refine AM.opW_untied (by kernel_rfl) ?_))
      generalize hE_ : AHeap.put h6 _ _ = h8; obtain ⟨g8, fr8, n8, l8⟩ := AM.put_get hE_ (by omega); clear hE_
      (repeat' (first | (simp (maxSteps := 1000000) (disch := first | omega | (simp only [AM.DB, List.length_set, List.length_map]; first | done | omega)) only [AM.RB, Nat.reduceAdd, Nat.reduceMul, Nat.reduceEqDiff, reduceCtorEq, b95_RTP, g8]) | refine AM.drawW_fine hp (by kernel_rfl) (by kernel_rfl) (by kernel_rfl) ?_ | refine AM.opW_tied (by kernel_rfl) ?_ | refine AM.opW_untied (by kernel_rfl) ?_))
      have pmP : P.Perm (AM.at' P 0 :: []) := by
        refine List.Perm.of_eq ((AM.head_tail hP0).trans ?_)
        congr 1
        exact List.length_eq_zero_iff.1 (by rw [List.length_tail]; omega)
      refine h1 hP0 [] (.slice (some ⟨id, off, none⟩) (P.length - 1) vc) h8 ⟨fr8.get g6 (fun e => by omega), ?_, ?_, fun j e => by have e : j = id := e; omega⟩ (fun j _ q => by simp at q) pmP ?_ (fun j e => e)
      · have := oc6.fr fr8 (fun j e t => by have e : j = id := e; omega)
        rw [h1e] at this ⊢
        simpa using this
      · omega
      · refine fr06.then fr8 fun j hj e => ?_
        omega
end Go.Proofs.YtgdcbjpookldoaaDoor
