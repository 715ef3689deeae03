/- Walks of this claim's functions, and plain laws. -/
import Derived.Test.YtdimjemgganegaaDoorWc
set_option linter.unusedSimpArgs false
set_option linter.unusedVariables false
namespace Go.Proofs.YtdimjemgganegaaDoor
open Go.AM

/-! ### The edges, as the document has them -/
def farN (C a b : Nat) : Int := max (((a / C : Nat) : Int) - (b / C : Nat)) (((b / C : Nat) : Int) - (a / C : Nat)) + max (((a % C : Nat) : Int) - (b % C : Nat)) (((b % C : Nat) : Int) - (a % C : Nat))
def wayOf (C a b : Nat) : Int × Int := if (b : Int) = (a : Int) - 1 ∧ b / C = a / C then (60, 62) else if b / C < a / C then (94, 118) else if a / C < b / C then (118, 94) else (62, 60)
/-- Does an edge go from a cell to another one? -/
def edgeN (K : List UInt8) (C a b : Nat) : Bool := !decide (((K.getD a 0).toNat : Int) = 35) && !decide (((K.getD b 0).toNat : Int) = 35) && decide (farN C a b = 1) &&
  (decide (((K.getD a 0).toNat : Int) = 46) || decide (((K.getD a 0).toNat : Int) = (wayOf C a b).1)) && !decide (((K.getD b 0).toNat : Int) = (wayOf C a b).2)
/-- A way leads to a cell. -/
def hits (C a b : Nat) (q : Wy) : Prop := ((b / C : Nat) : Int) = rowTo C a q ∧ ((b % C : Nat) : Int) = colTo C a q
theorem hits_of {R C a b : Nat} {q : Wy} (hC : 0 < C) (hb : b < R * C) : (inB R C a q = true ∧ cellTo C a q = b) ↔ hits C a b q := by
  have hm := Nat.mod_lt b hC
  have hd : b / C < R := by rw [Nat.div_lt_iff_lt_mul hC]; exact hb
  have he : b / C * C + b % C = b := by rw [Nat.mul_comm]; exact Nat.div_add_mod b C
  unfold hits inB cellTo
  simp only [Bool.and_eq_true, decide_eq_true_eq]
  generalize rowTo C a q = r
  generalize colTo C a q = c
  constructor
  · rintro ⟨⟨⟨⟨h1, h2⟩, h3⟩, h4⟩, h5⟩
    obtain ⟨r, rfl⟩ := Int.eq_ofNat_of_zero_le h1
    obtain ⟨c, rfl⟩ := Int.eq_ofNat_of_zero_le h3
    have hb' : b = c + C * r := by
      have h6 : b = r * C + c := by
        have : (b : Int) = ((r * C + c : Nat) : Int) := by rw [← h5, Int.natCast_add, Int.natCast_mul]
        exact Int.ofNat.inj this
      rw [h6, Nat.mul_comm, Nat.add_comm]
    have hc : c < C := by omega
    rw [hb', Nat.add_mul_div_left _ _ hC, Nat.add_mul_mod_self_left, Nat.div_eq_of_lt hc, Nat.mod_eq_of_lt hc, Nat.zero_add]
    exact ⟨rfl, rfl⟩
  · rintro ⟨rfl, rfl⟩
    refine ⟨⟨⟨⟨Int.natCast_nonneg _, Int.ofNat_lt.2 hd⟩, Int.natCast_nonneg _⟩, Int.ofNat_lt.2 hm⟩, ?_⟩
    rw [← Int.natCast_mul, ← Int.natCast_add, he]
theorem far_hits {C a b : Nat} : farN C a b = 1 ↔ ∃ q ∈ wayV, hits C a b q := by
  unfold farN hits rowTo colTo wayV
  generalize a / C = ra
  generalize b / C = rb
  generalize a % C = ca
  generalize b % C = cb
  constructor
  · intro h
    have hh : ((rb : Int) = ra - 1 ∧ (cb : Int) = ca) ∨ ((rb : Int) = ra ∧ (cb : Int) = ca - 1) ∨ ((rb : Int) = ra ∧ (cb : Int) = ca + 1) ∨ ((rb : Int) = ra + 1 ∧ (cb : Int) = ca) := by omega
    rcases hh with ⟨h1, h2⟩ | ⟨h1, h2⟩ | ⟨h1, h2⟩ | ⟨h1, h2⟩
    · exact ⟨(94, 118, -1, 0), by simp, by simp only; omega, by simp only; omega⟩
    · exact ⟨(60, 62, 0, -1), by simp, by simp only; omega, by simp only; omega⟩
    · exact ⟨(62, 60, 0, 1), by simp, by simp only; omega, by simp only; omega⟩
    · exact ⟨(118, 94, 1, 0), by simp, by simp only; omega, by simp only; omega⟩
  · rintro ⟨q, hq, h1, h2⟩
    simp only [List.mem_cons, List.not_mem_nil, or_false] at hq
    rcases hq with rfl | rfl | rfl | rfl <;> simp only at h1 h2 <;> omega
theorem way_of {C a b : Nat} (hC : 0 < C) {q : Wy} (hq : q ∈ wayV) (h : hits C a b q) : wayOf C a b = (q.1, q.2.1) := by
  have ha : a / C * C + a % C = a := by rw [Nat.mul_comm]; exact Nat.div_add_mod a C
  have hb : b / C * C + b % C = b := by rw [Nat.mul_comm]; exact Nat.div_add_mod b C
  obtain ⟨h1, h2⟩ := h
  unfold rowTo at h1
  unfold colTo at h2
  unfold wayOf
  generalize hra : a / C = ra at *
  generalize hrb : b / C = rb at *
  generalize hca : a % C = ca at *
  generalize hcb : b % C = cb at *
  unfold wayV at hq
  simp only [List.mem_cons, List.not_mem_nil, or_false] at hq
  rcases hq with rfl | rfl | rfl | rfl <;> simp only at h1 h2
  · rw [if_neg (by omega), if_pos (by omega)]
  · have e : rb = ra := by omega
    subst e
    rw [if_pos ⟨by omega, rfl⟩]
  · have e : rb = ra := by omega
    subst e
    rw [if_neg (by omega), if_neg (by omega), if_neg (by omega)]
  · rw [if_neg (by omega), if_neg (by omega), if_pos (by omega)]
/-- The program's edges are the document's. -/
theorem edge_iff (K : List UInt8) {R C a b : Nat} (hC : 0 < C) (hb : b < R * C) : edgeN K C a b = true ↔ ∃ q ∈ wayV, inB R C a q = true ∧ goesP K C a q = true ∧ cellTo C a q = b := by
  unfold edgeN
  simp only [Bool.and_eq_true, decide_eq_true_eq, Bool.or_eq_true, Bool.not_eq_true', decide_eq_false_iff_not]
  constructor
  · rintro ⟨⟨⟨⟨h1, h2⟩, h3⟩, h4⟩, h5⟩
    obtain ⟨q, hq, hh⟩ := far_hits.1 h3
    obtain ⟨i1, i2⟩ := (hits_of hC hb).2 hh
    refine ⟨q, hq, i1, ?_, i2⟩
    rw [way_of hC hq hh] at h4 h5
    unfold goesP leavesP
    rw [i2, Int.toNat_natCast]
    simp only [Bool.and_eq_true, decide_eq_true_eq, Bool.or_eq_true, Bool.not_eq_true', decide_eq_false_iff_not]
    exact ⟨⟨h4, h2⟩, h5⟩
  · rintro ⟨q, hq, i1, hg, i2⟩
    have hh := (hits_of hC hb).1 ⟨i1, i2⟩
    rw [way_of hC hq hh]
    unfold goesP leavesP at hg
    rw [i2, Int.toNat_natCast] at hg
    simp only [Bool.and_eq_true, decide_eq_true_eq, Bool.or_eq_true, Bool.not_eq_true', decide_eq_false_iff_not] at hg
    obtain ⟨⟨g1, g2⟩, g3⟩ := hg
    refine ⟨⟨⟨⟨?_, g2⟩, far_hits.2 ⟨q, hq, hh⟩⟩, g1⟩, g3⟩
    unfold wayV at hq
    simp only [List.mem_cons, List.not_mem_nil, or_false] at hq
    rcases hq with rfl | rfl | rfl | rfl <;> simp only at g1 <;> omega
/-! ### Ascending lists -/
def Asc : List Nat → Prop
  | [] => True
  | x :: l => (∀ y ∈ l, x < y) ∧ Asc l
theorem asc_eq : ∀ {l m : List Nat}, Asc l → Asc m → (∀ x, x ∈ l ↔ x ∈ m) → l = m
  | [], [], _, _, _ => rfl
  | [], y :: m, _, _, h => by have := (h y).2 (by simp); cases this
  | x :: l, [], _, _, h => by have := (h x).1 (by simp); cases this
  | x :: l, y :: m, ⟨a1, a2⟩, ⟨b1, b2⟩, h => by
    have e : x = y := by
      have h1 := (h x).1 (by simp)
      have h2 := (h y).2 (by simp)
      rcases List.mem_cons.1 h1 with q | q
      · exact q
      · rcases List.mem_cons.1 h2 with q2 | q2
        · exact q2.symm
        · have := b1 x q; have := a1 y q2; omega
    subst e
    rw [asc_eq a2 b2 fun z => ?_]
    constructor
    · intro hz
      rcases List.mem_cons.1 ((h z).1 (by simp [hz])) with q | q
      · have := a1 z hz; omega
      · exact q
    · intro hz
      rcases List.mem_cons.1 ((h z).2 (by simp [hz])) with q | q
      · have := b1 z hz; omega
      · exact q
theorem asc_append : ∀ {l m : List Nat}, Asc l → Asc m → (∀ x ∈ l, ∀ y ∈ m, x < y) → Asc (l ++ m)
  | [], _, _, hm, _ => hm
  | x :: l, m, ⟨a1, a2⟩, hm, h => ⟨fun y hy => (List.mem_append.1 hy).elim (a1 y) (h x (by simp) y), asc_append a2 hm fun z hz => h z (by simp [hz])⟩
theorem asc_filter {p : Nat → Bool} : ∀ {l : List Nat}, Asc l → Asc (l.filter p)
  | [], _ => trivial
  | x :: l, ⟨a1, a2⟩ => by
    rw [List.filter_cons]
    split
    · exact ⟨fun y hy => a1 y (List.mem_filter.1 hy).1, asc_filter a2⟩
    · exact asc_filter a2
theorem asc_range : ∀ n, Asc (List.range n)
  | 0 => trivial
  | n + 1 => by
    rw [List.range_succ]
    refine asc_append (asc_range n) ⟨fun y hy => by simp at hy, trivial⟩ fun x hx y hy => ?_
    have := List.mem_range.1 hx
    simp at hy; omega

/-- Where one goes from a cell, in order. -/
def outsW (K : List UInt8) (R C a : Nat) : List Nat := ((sidesF R C a wayV).filter (goesP K C a)).map fun q => (cellTo C a q).toNat
theorem outs_mem (K : List UInt8) {R C a b : Nat} (hC : 0 < C) : b ∈ outsW K R C a ↔ b < R * C ∧ edgeN K C a b = true := by
  unfold outsW sidesF
  rw [List.mem_map]
  constructor
  · rintro ⟨q, hq, rfl⟩
    obtain ⟨h1, h2⟩ := List.mem_filter.1 hq
    obtain ⟨h3, h4⟩ := List.mem_filter.1 h1
    obtain ⟨b, hb, hbl⟩ := cellTo_lt hC h4
    rw [hb, Int.toNat_natCast]
    exact ⟨hbl, (edge_iff K hC hbl).2 ⟨q, h3, h4, h2, hb⟩⟩
  · rintro ⟨hb, he⟩
    obtain ⟨q, h1, h2, h3, h4⟩ := (edge_iff K hC hb).1 he
    exact ⟨q, List.mem_filter.2 ⟨List.mem_filter.2 ⟨h1, h2⟩, h3⟩, by rw [h4, Int.toNat_natCast]⟩
theorem outs_asc (K : List UInt8) {R C a : Nat} (hC : 0 < C) : Asc (outsW K R C a) := by
  unfold outsW sidesF
  rw [List.filter_filter]
  have hm := Nat.mod_lt a hC
  -- the four, one behind the other
  have key : ∀ (l : List Wy), (∀ q ∈ l, inB R C a q = true → ∃ b : Nat, cellTo C a q = b) → (l.Pairwise fun q r => inB R C a q = true → inB R C a r = true → cellTo C a q < cellTo C a r) → Asc ((l.filter fun q => goesP K C a q && inB R C a q).map fun q => (cellTo C a q).toNat) := by
    intro l
    induction l with
    | nil => intro _ _; trivial
    | cons q l ih =>
      intro h1 h2
      rw [List.pairwise_cons] at h2
      rw [List.filter_cons]
      split
      · rename_i hc
        rw [Bool.and_eq_true] at hc
        refine ⟨fun y hy => ?_, ih (fun r hr => h1 r (by simp [hr])) h2.2⟩
        obtain ⟨r, hr, rfl⟩ := List.mem_map.1 hy
        obtain ⟨hr1, hr2⟩ := List.mem_filter.1 hr
        rw [Bool.and_eq_true] at hr2
        have := h2.1 r hr1 hc.2 hr2.2
        obtain ⟨b1, e1⟩ := h1 q (by simp) hc.2
        obtain ⟨b2, e2⟩ := h1 r (by simp [hr1]) hr2.2
        simp only
        rw [e1, e2] at this ⊢
        omega
      · exact ih (fun r hr => h1 r (by simp [hr])) h2.2
  refine key wayV (fun q _ h => (cellTo_lt hC h).imp fun _ q => q.1) ?_
  unfold wayV
  simp only [List.pairwise_cons, List.mem_cons, List.not_mem_nil, or_false, forall_eq_or_imp, forall_eq, false_implies, implies_true, List.Pairwise.nil, and_true]
  unfold inB cellTo rowTo colTo
  simp only [Bool.and_eq_true, decide_eq_true_eq]
  generalize a / C = ra
  generalize a % C = ca at *
  have e1 : ((ra : Int) + -1) * C = ra * C - C := by rw [Int.add_mul]; omega
  have e2 : ((ra : Int) + 1) * C = ra * C + C := by rw [Int.add_mul]; omega
  have e3 : ((ra : Int) + 0) * C = ra * C := by rw [Int.add_zero]
  rw [e1, e2, e3]
  generalize (ra : Int) * C = rc
  refine ⟨⟨?_, ?_, ?_⟩, ⟨?_, ?_⟩, ?_⟩ <;> (rintro ⟨⟨⟨_, _⟩, _⟩, _⟩ ⟨⟨⟨_, _⟩, _⟩, _⟩; omega)
theorem outs_eq (K : List UInt8) {R C a : Nat} (hC : 0 < C) : outsW K R C a = (List.range (R * C)).filter (edgeN K C a) :=
  asc_eq (outs_asc K hC) (asc_filter (asc_range _)) fun b => by rw [outs_mem K hC, List.mem_filter, List.mem_range]

theorem from_edges (K : List UInt8) (R C : Nat) : ∀ (n a : Nat), fromE (edgesTo K R C n) a = if a < n then (outsW K R C a).map fun (b : Nat) => (b : Int) else []
  | 0, a => by simp [edgesTo, fromE]
  | n + 1, a => by
    have ih := from_edges K R C n a
    have hs : fromE (edgesTo K R C (n + 1)) a = fromE (edgesTo K R C n) a ++ fromE (edgesW K C n (sidesF R C n wayV)) a := by
      rw [edgesTo]; unfold fromE; rw [List.filter_append, List.map_append]
    rw [hs, ih]
    by_cases e : a = n
    · subst e
      rw [if_neg (by omega), if_pos (by omega), List.nil_append]
      unfold fromE edgesW outsW
      rw [List.filter_map, List.map_map, List.map_map]
      congr 1
      rw [List.filter_eq_self]
      intro q _
      simp
    · have : fromE (edgesW K C n (sidesF R C n wayV)) a = [] := by
        unfold fromE edgesW
        rw [List.filter_map, List.map_map, List.map_eq_nil_iff, List.filter_eq_nil_iff]
        intro q _
        have : n ≠ a := fun q => e q.symm
        simp [this]
      rw [this, List.append_nil]
      by_cases h : a < n
      · rw [if_pos h, if_pos (by omega)]
      · rw [if_neg h, if_neg (by omega)]
theorem into_edges (K : List UInt8) {R C : Nat} (hC : 0 < C) {b : Nat} (hb : b < R * C) : ∀ (n : Nat), intoE (edgesTo K R C n) b = ((List.range n).filter fun a => edgeN K C a b).map fun (a : Nat) => (a : Int)
  | 0 => by simp [edgesTo, intoE]
  | n + 1 => by
    have ih := into_edges K hC hb n
    have hs : intoE (edgesTo K R C (n + 1)) b = intoE (edgesTo K R C n) b ++ intoE (edgesW K C n (sidesF R C n wayV)) b := by
      rw [edgesTo]; unfold intoE; rw [List.filter_append, List.map_append]
    rw [hs, ih, List.range_succ, List.filter_append, List.map_append]
    congr 1
    have h1 : intoE (edgesW K C n (sidesF R C n wayV)) b = ((outsW K R C n).filter fun x => decide (x = b)).map fun _ => (n : Int) := by
      unfold intoE edgesW outsW
      rw [List.filter_map, List.filter_map, List.map_map, List.map_map]
      rfl
    rw [h1, List.filter_cons, List.filter_nil]
    have hasc := outs_asc K (R := R) (a := n) hC
    have hmem := outs_mem K (R := R) (a := n) (b := b) hC
    have hcount : ∀ l : List Nat, Asc l → (l.filter fun x => decide (x = b)) = if b ∈ l then [b] else [] := by
      intro l
      induction l with
      | nil => intro _; simp
      | cons x l ih =>
        rintro ⟨a1, a2⟩
        rw [List.filter_cons, ih a2]
        by_cases e : x = b
        · subst e
          have : x ∉ l := fun q => by have := a1 x q; omega
          simp [this]
        · have : b ≠ x := fun q => e q.symm
          simp [e, this]
    rw [hcount _ hasc]
    cases he : edgeN K C n b with
    | true => rw [if_pos (hmem.2 ⟨hb, he⟩), if_pos rfl]; rfl
    | false =>
      rw [if_neg (fun q => by have := (hmem.1 q).2; rw [he] at this; cases this)]; rfl
theorem nextL_eq {L : List (List UInt8)} (f : Fit L) (i : Int) : nextL L i = if 0 ≤ i ∧ i < L.flatten.length then ((List.range L.flatten.length).filter (edgeN L.flatten (L.getD 0 []).length i.toNat)).map (fun (b : Nat) => (b : Int)) else [] := by
  unfold nextL
  split
  · rename_i h
    rw [from_edges, if_pos (by omega), outs_eq _ f.cols, f.len]
  · rfl
theorem backL_eq {L : List (List UInt8)} (f : Fit L) (i : Int) : backL L i = if 0 ≤ i ∧ i < L.flatten.length then ((List.range L.flatten.length).filter fun a => edgeN L.flatten (L.getD 0 []).length a i.toNat).map (fun (b : Nat) => (b : Int)) else [] := by
  unfold backL
  split
  · rename_i h
    rw [into_edges _ f.cols (by rw [← f.len]; omega)]
  · rfl

end Go.Proofs.YtdimjemgganegaaDoor

namespace Go.Proofs.YtdimjemgganegaaDoor
open Go.AM
set_option maxRecDepth 8000
theorem b41_G19 : type_of% (And.intro (@AM.aMax_int) (And.intro (@AM.bin_sub) (And.intro (@AM.op_binOp) (@AM.op_max2)))) := And.intro (@AM.aMax_int) (And.intro (@AM.bin_sub) (And.intro (@AM.op_binOp) (@AM.op_max2)))
theorem b24_G19 : type_of% (And.intro (@AM.bin_add) (And.intro (@AM.bin_quo) (And.intro (@AM.bin_rem) (And.intro (@AM.fa_ptr) (And.intro (@fd_57_1) (And.intro (@AM.ldO_agg) (And.intro (@AM.ldO_one) (And.intro (@AM.ld_ptr) (And.intro (@lk_3) (And.intro (@AM.op_binOp) (And.intro (@AM.op_call) (And.intro (@AM.op_fieldAddr) (And.intro (@AM.op_load) (And.intro (@AM.op_nilCheck) (And.intro (@AM.op_unOp) (And.intro (@AM.un_neg) (@AM.un_not))))))))))))))))) := And.intro (@AM.bin_add) (And.intro (@AM.bin_quo) (And.intro (@AM.bin_rem) (And.intro (@AM.fa_ptr) (And.intro (@fd_57_1) (And.intro (@AM.ldO_agg) (And.intro (@AM.ldO_one) (And.intro (@AM.ld_ptr) (And.intro (@lk_3) (And.intro (@AM.op_binOp) (And.intro (@AM.op_call) (And.intro (@AM.op_fieldAddr) (And.intro (@AM.op_load) (And.intro (@AM.op_nilCheck) (And.intro (@AM.op_unOp) (And.intro (@AM.un_neg) (@AM.un_not))))))))))))))))
theorem b12_G19 : type_of% (And.intro (@AM.bin_add) (And.intro (@AM.bin_lss) (And.intro (@AM.bin_neq) (And.intro (@AM.iaO_ok) (And.intro (AM.ia_slice el_29) (And.intro (@AM.ldO_agg) (And.intro (@AM.ldO_one) (And.intro (@AM.ld_ptr) (And.intro (AM.len_slice ul_29) (And.intro (@lk_3) (And.intro (@AM.op_binOp) (And.intro (@AM.op_indexAddr) (And.intro (@AM.op_len) (@AM.op_load)))))))))))))) := And.intro (@AM.bin_add) (And.intro (@AM.bin_lss) (And.intro (@AM.bin_neq) (And.intro (@AM.iaO_ok) (And.intro (AM.ia_slice el_29) (And.intro (@AM.ldO_agg) (And.intro (@AM.ldO_one) (And.intro (@AM.ld_ptr) (And.intro (AM.len_slice ul_29) (And.intro (@lk_3) (And.intro (@AM.op_binOp) (And.intro (@AM.op_indexAddr) (And.intro (@AM.op_len) (@AM.op_load)))))))))))))


def farL (L : List (List UInt8)) (a b : Int) : Int := if (0 ≤ a ∧ a < L.flatten.length) ∧ 0 ≤ b ∧ b < L.flatten.length then farN (L.getD 0 []).length a.toNat b.toNat else -1
theorem apart_w {x y : Int} {h : AHeap} (hx : 0 ≤ x ∧ x ≤ 4000000) (hy : 0 ≤ y ∧ y ≤ 4000000) {Q : VQ} (hq : Q (.int .i64 (max (x - y) (y - x))) h) : W 41 [.int .i64 x, .int .i64 y] h Q := by
  refine AM.enter hp (fn := Tryd.f41) (rs := [.tmp 4]) (nt := 12) (by kernel_rfl) Tryd.func41 rfl rfl rfl (by kernel_rfl) ?_
  (first | (simp (maxSteps := 1000000) (disch := first | omega | (simp only [AM.DB, List.length_set, List.length_map]; first | done | omega)) only [AM.RB, Nat.reduceAdd, Nat.reduceMul, Nat.reduceEqDiff, reduceCtorEq, b41_G19, AM.wrap_i64]) | skip); (repeat' ((first | refine AM.drawW_fine hp (by kernel_rfl) (by kernel_rfl) ?_ | refine AM.opW_tied (by kernel_rfl) ?_ | refine AM.opW_untied (by kernel_rfl) ?_ | refine AM.build_w ?_); simp (maxSteps := 1000000) (disch := first | omega | (simp only [AM.DB, List.length_set, List.length_map]; first | done | omega)) only [AM.RB, Nat.reduceAdd, Nat.reduceMul, Nat.reduceEqDiff, reduceCtorEq, b41_G19, AM.wrap_i64]))
  exact hq
theorem tdiv_nat (n C : Nat) : (n : Int).tdiv C = ((n / C : Nat) : Int) := by rw [Int.tdiv_eq_ediv_of_nonneg (by omega)]; rfl
theorem tmod_nat (n C : Nat) : (n : Int).tmod C = ((n % C : Nat) : Int) := by rw [Int.tmod_eq_emod_of_nonneg (by omega)]; rfl
theorem wrap_nat {n : Nat} (h : n ≤ 4000000000) : IntKind.i64.wrap (n : Int) = n := AM.wrap_i64 (by omega) (by omega)
set_option maxHeartbeats 1000000 in
theorem far_w {h : AHeap} {p : Nat} {kv : Value} {tl : List Value} {L : List (List UInt8)} (m : Mp h p kv L.length (L.getD 0 []).length L.flatten tl) (f : Fit L) (a b : Int) {Q : VQ} (hq : Q (.int .i64 (farL L a b)) h) : W 24 [pv p, .int .i64 a, .int .i64 b] h Q := by
  have hg := m.1
  have hpl := AM.get_some_lt hg
  have hK := f.k1024
  have hC := f.cols
  unfold farL at hq
  refine AM.enter hp (fn := Tryd.f24) (rs := [.tmp 6]) (nt := 44) (by kernel_rfl) Tryd.func24 rfl rfl rfl (by kernel_rfl) ?_
  (first | (simp (maxSteps := 1000000) (disch := first | omega | (simp only [AM.DB, List.length_set, List.length_map]; first | done | omega)) only [AM.RB, Nat.reduceAdd, Nat.reduceMul, Nat.reduceEqDiff, reduceCtorEq, b24_G19]) | skip); (repeat' ((first | refine AM.drawW_loose (id := 3) hp (by kernel_rfl) ?_ | refine AM.opW_tied (by kernel_rfl) ?_ | refine AM.opW_untied (by kernel_rfl) ?_ | refine AM.build_w ?_); simp (maxSteps := 1000000) (disch := first | omega | (simp only [AM.DB, List.length_set, List.length_map]; first | done | omega)) only [AM.RB, Nat.reduceAdd, Nat.reduceMul, Nat.reduceEqDiff, reduceCtorEq, b24_G19]))
  refine is_w m f.rows a _ ?_
  by_cases ha : 0 ≤ a ∧ a < L.flatten.length
  · (first | (simp (maxSteps := 1000000) (disch := first | omega | (simp only [AM.DB, List.length_set, List.length_map]; first | done | omega)) only [AM.RB, Nat.reduceAdd, Nat.reduceMul, Nat.reduceEqDiff, reduceCtorEq, b24_G19, decide_eq_true ha]) | skip); (repeat' ((first | refine AM.drawW_loose (id := 3) hp (by kernel_rfl) ?_ | refine AM.opW_tied (by kernel_rfl) ?_ | refine AM.opW_untied (by kernel_rfl) ?_ | refine AM.build_w ?_); simp (maxSteps := 1000000) (disch := first | omega | (simp only [AM.DB, List.length_set, List.length_map]; first | done | omega)) only [AM.RB, Nat.reduceAdd, Nat.reduceMul, Nat.reduceEqDiff, reduceCtorEq, b24_G19, decide_eq_true ha]))
    refine is_w m f.rows b _ ?_
    by_cases hb : 0 ≤ b ∧ b < L.flatten.length
    · rw [if_pos ⟨ha, hb⟩] at hq
      obtain ⟨na, rfl⟩ := Int.eq_ofNat_of_zero_le ha.1
      obtain ⟨nb, rfl⟩ := Int.eq_ofNat_of_zero_le hb.1
      have hC' : ((L.getD 0 []).length : Int) ≠ 0 := by omega
      have e1 := tdiv_nat na (L.getD 0 []).length
      have e2 := tdiv_nat nb (L.getD 0 []).length
      have e3 := tmod_nat na (L.getD 0 []).length
      have e4 := tmod_nat nb (L.getD 0 []).length
      have b1 : na / (L.getD 0 []).length ≤ 1024 := Nat.le_trans (Nat.div_le_self _ _) (by omega)
      have b2 : nb / (L.getD 0 []).length ≤ 1024 := Nat.le_trans (Nat.div_le_self _ _) (by omega)
      have b3 : na % (L.getD 0 []).length ≤ 1024 := Nat.le_trans (Nat.mod_le _ _) (by omega)
      have b4 : nb % (L.getD 0 []).length ≤ 1024 := Nat.le_trans (Nat.mod_le _ _) (by omega)
      rw [Int.toNat_natCast, Int.toNat_natCast] at hq
      unfold farN at hq
      generalize na / (L.getD 0 []).length = x1 at *
      generalize nb / (L.getD 0 []).length = x2 at *
      generalize na % (L.getD 0 []).length = x3 at *
      generalize nb % (L.getD 0 []).length = x4 at *
      have w1 := wrap_nat (n := x1) (by omega)
      have w2 := wrap_nat (n := x2) (by omega)
      (first | (simp (maxSteps := 1000000) (disch := first | omega | (simp only [AM.DB, List.length_set, List.length_map]; first | done | omega)) only [AM.RB, Nat.reduceAdd, Nat.reduceMul, Nat.reduceEqDiff, reduceCtorEq, b24_G19, decide_eq_true hb, hg, e1, e2, w1, w2]) | skip); (repeat' ((first | refine AM.drawW_loose (id := 3) hp (by kernel_rfl) ?_ | refine AM.opW_tied (by kernel_rfl) ?_ | refine AM.opW_untied (by kernel_rfl) ?_ | refine AM.build_w ?_); simp (maxSteps := 1000000) (disch := first | omega | (simp only [AM.DB, List.length_set, List.length_map]; first | done | omega)) only [AM.RB, Nat.reduceAdd, Nat.reduceMul, Nat.reduceEqDiff, reduceCtorEq, b24_G19, decide_eq_true hb, hg, e1, e2, w1, w2]))
      refine apart_w ⟨by omega, by omega⟩ ⟨by omega, by omega⟩ ?_
      (first | (simp (maxSteps := 1000000) (disch := first | omega | (simp only [AM.DB, List.length_set, List.length_map]; first | done | omega)) only [AM.RB, Nat.reduceAdd, Nat.reduceMul, Nat.reduceEqDiff, reduceCtorEq, b24_G19, hg, e3, e4]) | skip); (repeat' ((first | refine AM.drawW_loose (id := 3) hp (by kernel_rfl) ?_ | refine AM.opW_tied (by kernel_rfl) ?_ | refine AM.opW_untied (by kernel_rfl) ?_ | refine AM.build_w ?_); simp (maxSteps := 1000000) (disch := first | omega | (simp only [AM.DB, List.length_set, List.length_map]; first | done | omega)) only [AM.RB, Nat.reduceAdd, Nat.reduceMul, Nat.reduceEqDiff, reduceCtorEq, b24_G19, hg, e3, e4]))
      refine apart_w ⟨by omega, by omega⟩ ⟨by omega, by omega⟩ ?_
      (first | (simp (maxSteps := 1000000) (disch := first | omega | (simp only [AM.DB, List.length_set, List.length_map]; first | done | omega)) only [AM.RB, Nat.reduceAdd, Nat.reduceMul, Nat.reduceEqDiff, reduceCtorEq, b24_G19, AM.wrap_i64]) | skip); (repeat' ((first | refine AM.drawW_loose (id := 3) hp (by kernel_rfl) ?_ | refine AM.opW_tied (by kernel_rfl) ?_ | refine AM.opW_untied (by kernel_rfl) ?_ | refine AM.build_w ?_); simp (maxSteps := 1000000) (disch := first | omega | (simp only [AM.DB, List.length_set, List.length_map]; first | done | omega)) only [AM.RB, Nat.reduceAdd, Nat.reduceMul, Nat.reduceEqDiff, reduceCtorEq, b24_G19, AM.wrap_i64]))
      refine ⟨AM.looseOk_by [(17, [0, 13]), (23, [0, 13])] (by kernel_rfl) ?_, ?_⟩
      · simp (maxSteps := 1000000) (disch := first | omega | (simp only [AM.DB, List.length_set, List.length_map]; first | done | omega)) only [AM.RB, Nat.reduceAdd, Nat.reduceMul, Nat.reduceEqDiff, reduceCtorEq, b24_G19]
        (repeat' apply And.intro) <;> (first | (refine AM.stable_len _ _ _ _ _ _ (fun _ => ?_); (simp (maxSteps := 1000000) (disch := first | omega | (simp only [AM.DB, List.length_set, List.length_map]; first | done | omega)) only [AM.RB, Nat.reduceAdd, Nat.reduceMul, Nat.reduceEqDiff, reduceCtorEq, b24_G19, hg])) | (refine AM.stable_load _ _ _ _ _ _ ?_; (first | (simp (maxSteps := 1000000) (disch := first | omega | (simp only [AM.DB, List.length_set, List.length_map]; first | done | omega)) only [AM.RB, Nat.reduceAdd, Nat.reduceMul, Nat.reduceEqDiff, reduceCtorEq, b24_G19, hg]) | skip); (first | (refine AM.stabL_int (by omega) ?_; (simp (maxSteps := 1000000) (disch := first | omega | (simp only [AM.DB, List.length_set, List.length_map]; first | done | omega)) only [AM.RB, Nat.reduceAdd, Nat.reduceMul, Nat.reduceEqDiff, reduceCtorEq, b24_G19, hg])) | (refine AM.stabL_ptr (by omega) (by omega) ?_; (simp (maxSteps := 1000000) (disch := first | omega | (simp only [AM.DB, List.length_set, List.length_map]; first | done | omega)) only [AM.RB, Nat.reduceAdd, Nat.reduceMul, Nat.reduceEqDiff, reduceCtorEq, b24_G19, hg])) | (refine AM.stabL_string (by omega) ?_; (simp (maxSteps := 1000000) (disch := first | omega | (simp only [AM.DB, List.length_set, List.length_map]; first | done | omega)) only [AM.RB, Nat.reduceAdd, Nat.reduceMul, Nat.reduceEqDiff, reduceCtorEq, b24_G19, hg])) | (refine AM.stabL_bool (by omega) ?_; (simp (maxSteps := 1000000) (disch := first | omega | (simp only [AM.DB, List.length_set, List.length_map]; first | done | omega)) only [AM.RB, Nat.reduceAdd, Nat.reduceMul, Nat.reduceEqDiff, reduceCtorEq, b24_G19, hg])))))
      exact hq
    · rw [if_neg (fun q => hb q.2)] at hq
      (first | (simp (maxSteps := 1000000) (disch := first | omega | (simp only [AM.DB, List.length_set, List.length_map]; first | done | omega)) only [AM.RB, Nat.reduceAdd, Nat.reduceMul, Nat.reduceEqDiff, reduceCtorEq, b24_G19, decide_eq_false hb]) | skip); (repeat' ((first | refine AM.drawW_loose (id := 3) hp (by kernel_rfl) ?_ | refine AM.opW_tied (by kernel_rfl) ?_ | refine AM.opW_untied (by kernel_rfl) ?_ | refine AM.build_w ?_); simp (maxSteps := 1000000) (disch := first | omega | (simp only [AM.DB, List.length_set, List.length_map]; first | done | omega)) only [AM.RB, Nat.reduceAdd, Nat.reduceMul, Nat.reduceEqDiff, reduceCtorEq, b24_G19, decide_eq_false hb]))
      exact hq
  · rw [if_neg (fun q => ha q.1)] at hq
    (first | (simp (maxSteps := 1000000) (disch := first | omega | (simp only [AM.DB, List.length_set, List.length_map]; first | done | omega)) only [AM.RB, Nat.reduceAdd, Nat.reduceMul, Nat.reduceEqDiff, reduceCtorEq, b24_G19, decide_eq_false ha]) | skip); (repeat' ((first | refine AM.drawW_loose (id := 3) hp (by kernel_rfl) ?_ | refine AM.opW_tied (by kernel_rfl) ?_ | refine AM.opW_untied (by kernel_rfl) ?_ | refine AM.build_w ?_); simp (maxSteps := 1000000) (disch := first | omega | (simp only [AM.DB, List.length_set, List.length_map]; first | done | omega)) only [AM.RB, Nat.reduceAdd, Nat.reduceMul, Nat.reduceEqDiff, reduceCtorEq, b24_G19, decide_eq_false ha]))
    exact hq

theorem same_w {s t : Value} {n k : Nat} {l m : List Int} {h : AHeap} (hs : Rd h 3 1 s n (l.map (.int .i64))) (ht : Rd h 3 1 t k (m.map (.int .i64))) (hn : n ≤ 4000000000) {Q : VQ} (hq : Q (.bool (decide (l = m))) h) : W 12 [s, t] h Q := by
  obtain ⟨a, ac, rfl⟩ := hs.form
  obtain ⟨b, bc, rfl⟩ := ht.form
  have hl : l.length = n := by have := hs.length; rw [List.length_map] at this; omega
  have hm : m.length = k := by have := ht.length; rw [List.length_map] at this; omega
  refine AM.enter hp (fn := Tryd.f12) (rs := [.tmp 4]) (nt := 26) (by kernel_rfl) Tryd.func12 rfl rfl rfl (by kernel_rfl) ?_
  by_cases hnk : (n : Int) = k
  · (first | (simp (maxSteps := 1000000) (disch := first | omega | (simp only [AM.DB, List.length_set, List.length_map]; first | done | omega)) only [AM.RB, Nat.reduceAdd, Nat.reduceMul, Nat.reduceEqDiff, reduceCtorEq, b12_G19, decide_eq_true hnk]) | skip); (repeat' ((first | refine AM.drawW_fine hp (by kernel_rfl) (by kernel_rfl) ?_ | refine AM.opW_tied (by kernel_rfl) ?_ | refine AM.opW_untied (by kernel_rfl) ?_ | refine AM.build_w ?_); simp (maxSteps := 1000000) (disch := first | omega | (simp only [AM.DB, List.length_set, List.length_map]; first | done | omega)) only [AM.RB, Nat.reduceAdd, Nat.reduceMul, Nat.reduceEqDiff, reduceCtorEq, b12_G19, decide_eq_true hnk]))
    refine AM.loop_w hp 26 (fun i : Nat => [(0, .slice a n ac), (1, .slice b k bc), (5, .int .i64 i)]) (fun i h' => h' = h ∧ i ≤ n ∧ l.take i = m.take i) (fun i => n - i) (by kernel_rfl) 0 ?_ ?_ ?_
    · simp (maxSteps := 1000000) (disch := first | omega | (simp only [AM.DB, List.length_set, List.length_map]; first | done | omega)) only [AM.RB, Nat.reduceAdd, Nat.reduceMul, Nat.reduceEqDiff, reduceCtorEq, b12_G19]
    · exact ⟨rfl, Nat.zero_le _, rfl⟩
    rintro i h1 ρ ⟨rfl, hi, htk⟩
    simp (maxSteps := 1000000) (disch := first | omega | (simp only [AM.DB, List.length_set, List.length_map]; first | done | omega)) only [AM.RB, Nat.reduceAdd, Nat.reduceMul, Nat.reduceEqDiff, reduceCtorEq, b12_G19]
    refine AM.condV_split (fun hlt => ?_) (fun hlt => ?_)
    · have hil : i < l.length := by omega
      have him : i < m.length := by omega
      by_cases e : l.getD i 0 = m.getD i 0
      · (first | (simp (maxSteps := 1000000) (disch := first | omega | (simp only [AM.DB, List.length_set, List.length_map]; first | done | omega)) only [AM.RB, Nat.reduceAdd, Nat.reduceMul, Nat.reduceEqDiff, reduceCtorEq, b12_G19, hs.ia el_29, ht.ia el_29, Rd.ldi hs lk_3, Rd.ldi ht lk_3, Int.toNat_natCast, decide_eq_true e, AM.wrap_i64]) | skip); (repeat' ((first | refine AM.drawW_fine hp (by kernel_rfl) (by kernel_rfl) ?_ | refine AM.opW_tied (by kernel_rfl) ?_ | refine AM.opW_untied (by kernel_rfl) ?_ | refine AM.build_w ?_); simp (maxSteps := 1000000) (disch := first | omega | (simp only [AM.DB, List.length_set, List.length_map]; first | done | omega)) only [AM.RB, Nat.reduceAdd, Nat.reduceMul, Nat.reduceEqDiff, reduceCtorEq, b12_G19, hs.ia el_29, ht.ia el_29, Rd.ldi hs lk_3, Rd.ldi ht lk_3, Int.toNat_natCast, decide_eq_true e, AM.wrap_i64]))
        refine ⟨i + 1, by omega, congrArg _ (by omega), by omega, ?_⟩
        rw [List.take_add_one, List.take_add_one, htk]
        simp only [List.getD, List.getElem?_eq_getElem hil, List.getElem?_eq_getElem him, Option.getD_some] at e ⊢
        rw [e]
      · (first | (simp (maxSteps := 1000000) (disch := first | omega | (simp only [AM.DB, List.length_set, List.length_map]; first | done | omega)) only [AM.RB, Nat.reduceAdd, Nat.reduceMul, Nat.reduceEqDiff, reduceCtorEq, b12_G19, hs.ia el_29, ht.ia el_29, Rd.ldi hs lk_3, Rd.ldi ht lk_3, Int.toNat_natCast, decide_eq_false e]) | skip); (repeat' ((first | refine AM.drawW_fine hp (by kernel_rfl) (by kernel_rfl) ?_ | refine AM.opW_tied (by kernel_rfl) ?_ | refine AM.opW_untied (by kernel_rfl) ?_ | refine AM.build_w ?_); simp (maxSteps := 1000000) (disch := first | omega | (simp only [AM.DB, List.length_set, List.length_map]; first | done | omega)) only [AM.RB, Nat.reduceAdd, Nat.reduceMul, Nat.reduceEqDiff, reduceCtorEq, b12_G19, hs.ia el_29, ht.ia el_29, Rd.ldi hs lk_3, Rd.ldi ht lk_3, Int.toNat_natCast, decide_eq_false e]))
        rw [decide_eq_false (fun q => e (by rw [q]))] at hq
        exact hq
    · have e : l = m := by
        have : i = n := by omega
        subst this
        rw [← hl, List.take_length] at htk
        rw [htk, List.take_of_length_le (by omega)]
      rw [decide_eq_true e] at hq
      (first | (simp (maxSteps := 1000000) (disch := first | omega | (simp only [AM.DB, List.length_set, List.length_map]; first | done | omega)) only [AM.RB, Nat.reduceAdd, Nat.reduceMul, Nat.reduceEqDiff, reduceCtorEq, b12_G19]) | skip); (repeat' ((first | refine AM.drawW_fine hp (by kernel_rfl) (by kernel_rfl) ?_ | refine AM.opW_tied (by kernel_rfl) ?_ | refine AM.opW_untied (by kernel_rfl) ?_ | refine AM.build_w ?_); simp (maxSteps := 1000000) (disch := first | omega | (simp only [AM.DB, List.length_set, List.length_map]; first | done | omega)) only [AM.RB, Nat.reduceAdd, Nat.reduceMul, Nat.reduceEqDiff, reduceCtorEq, b12_G19]))
      exact hq
  · (first | (simp (maxSteps := 1000000) (disch := first | omega | (simp only [AM.DB, List.length_set, List.length_map]; first | done | omega)) only [AM.RB, Nat.reduceAdd, Nat.reduceMul, Nat.reduceEqDiff, reduceCtorEq, b12_G19, decide_eq_false hnk]) | skip); (repeat' ((first | refine AM.drawW_fine hp (by kernel_rfl) (by kernel_rfl) ?_ | refine AM.opW_tied (by kernel_rfl) ?_ | refine AM.opW_untied (by kernel_rfl) ?_ | refine AM.build_w ?_); simp (maxSteps := 1000000) (disch := first | omega | (simp only [AM.DB, List.length_set, List.length_map]; first | done | omega)) only [AM.RB, Nat.reduceAdd, Nat.reduceMul, Nat.reduceEqDiff, reduceCtorEq, b12_G19, decide_eq_false hnk]))
    rw [decide_eq_false (fun q => hnk (by rw [← hl, ← hm, q]))] at hq
    exact hq

end Go.Proofs.YtdimjemgganegaaDoor

namespace Go.Proofs.YtdimjemgganegaaDoor
open Go.AM

def edgeL (L : List (List UInt8)) (a b : Int) : Bool := decide ((0 ≤ a ∧ a < L.flatten.length) ∧ 0 ≤ b ∧ b < L.flatten.length) && edgeN L.flatten (L.getD 0 []).length a.toNat b.toNat
/-! ### Lists of the document's -/
def nxt (L : List (List UInt8)) (a : Int) (n : Nat) : List Int := ((List.range n).filter fun (b : Nat) => edgeL L a b).map fun (b : Nat) => (b : Int)
def bck (L : List (List UInt8)) (b : Int) (n : Nat) : List Int := ((List.range n).filter fun (a : Nat) => edgeL L a b).map fun (a : Nat) => (a : Int)
theorem nxt_succ (L : List (List UInt8)) (a : Int) (n : Nat) : nxt L a (n + 1) = nxt L a n ++ if edgeL L a n = true then [(n : Int)] else [] := by
  unfold nxt
  rw [List.range_succ, List.filter_append, List.map_append, List.filter_cons]
  congr 1
  split <;> simp
theorem bck_succ (L : List (List UInt8)) (b : Int) (n : Nat) : bck L b (n + 1) = bck L b n ++ if edgeL L n b = true then [(n : Int)] else [] := by
  unfold bck
  rw [List.range_succ, List.filter_append, List.map_append, List.filter_cons]
  congr 1
  split <;> simp
theorem nxt_len (L : List (List UInt8)) (a : Int) (n : Nat) : (nxt L a n).length ≤ n := by
  unfold nxt; rw [List.length_map]; exact Nat.le_trans (List.length_filter_le _ _) (by simp)
theorem bck_len (L : List (List UInt8)) (a : Int) (n : Nat) : (bck L a n).length ≤ n := by
  unfold bck; rw [List.length_map]; exact Nat.le_trans (List.length_filter_le _ _) (by simp)
theorem nxt_eq {L : List (List UInt8)} (f : Fit L) (a : Int) : nxt L a L.flatten.length = nextL L a := by
  rw [nextL_eq f]
  unfold nxt
  split
  · rename_i h
    congr 1
    apply List.filter_congr
    intro b hb
    have := List.mem_range.1 hb
    unfold edgeL
    rw [decide_eq_true ⟨h, by omega, by omega⟩, Bool.true_and, Int.toNat_natCast]
  · rename_i h
    rw [List.map_eq_nil_iff, List.filter_eq_nil_iff]
    intro b _
    unfold edgeL
    rw [decide_eq_false (fun q => h q.1)]; simp
theorem bck_eq {L : List (List UInt8)} (f : Fit L) (b : Int) : bck L b L.flatten.length = backL L b := by
  rw [backL_eq f]
  unfold bck
  split
  · rename_i h
    congr 1
    apply List.filter_congr
    intro a ha
    have := List.mem_range.1 ha
    unfold edgeL
    rw [decide_eq_true ⟨⟨by omega, by omega⟩, h⟩, Bool.true_and, Int.toNat_natCast]
  · rename_i h
    rw [List.map_eq_nil_iff, List.filter_eq_nil_iff]
    intro a _
    unfold edgeL
    rw [decide_eq_false (fun q => h q.2)]; simp
theorem edge_mem {L : List (List UInt8)} (f : Fit L) (a b : Int) : decide (b ∈ nextL L a) = edgeL L a b := by
  rw [← nxt_eq f]
  unfold nxt
  cases he : edgeL L a b with
  | true =>
    have h := he
    unfold edgeL at h
    rw [Bool.and_eq_true, decide_eq_true_eq] at h
    obtain ⟨⟨_, h1, h2⟩, _⟩ := h
    obtain ⟨n, rfl⟩ := Int.eq_ofNat_of_zero_le h1
    exact decide_eq_true (List.mem_map.2 ⟨n, List.mem_filter.2 ⟨List.mem_range.2 (by omega), he⟩, rfl⟩)
  | false =>
    refine decide_eq_false fun q => ?_
    obtain ⟨n, hn, rfl⟩ := List.mem_map.1 q
    rw [(List.mem_filter.1 hn).2] at he; cases he


end Go.Proofs.YtdimjemgganegaaDoor

namespace Go.Proofs.YtdimjemgganegaaDoor
open Go.AM
set_option maxRecDepth 8000
theorem b11_G21 : type_of% (And.intro (@AM.bin_add) (And.intro (@AM.bin_lss) (And.intro (AM.len_slice ul_29) (And.intro (@AM.op_binOp) (And.intro (@AM.op_call) (@AM.op_len)))))) := And.intro (@AM.bin_add) (And.intro (@AM.bin_lss) (And.intro (AM.len_slice ul_29) (And.intro (@AM.op_binOp) (And.intro (@AM.op_call) (@AM.op_len)))))


theorem Mt.start {h : AHeap} {p : Nat} {kv : Value} {L : List (List UInt8)} (m : Mp h p kv L.length (L.getD 0 []).length L.flatten tl0) : Mt h p L (fun id => id = p ∨ idOf kv id) :=
  ⟨kv, fun id q => .inr q, .inl rfl, fun id q => q.elim (fun e => by rw [e]; exact AM.get_some_lt m.1) (fun q => m.2.1.lt q), .inl m⟩
/-- How many edges go out of the first cells. -/
def outN (L : List (List UInt8)) : Nat → Nat
  | 0 => 0
  | k + 1 => outN L k + (nextL L k).length
theorem nextL_len {L : List (List UInt8)} (f : Fit L) (i : Int) : (nextL L i).length ≤ 1024 := by rw [← nxt_eq f]; exact Nat.le_trans (nxt_len _ _ _) f.k1024
theorem backL_len {L : List (List UInt8)} (f : Fit L) (i : Int) : (backL L i).length ≤ 1024 := by rw [← bck_eq f]; exact Nat.le_trans (bck_len _ _ _) f.k1024
theorem outN_le {L : List (List UInt8)} (f : Fit L) : ∀ k, outN L k ≤ 1024 * k
  | 0 => Nat.le_refl _
  | k + 1 => by have := outN_le f k; have := nextL_len f k; rw [outN]; omega
/-- What the laws keep of a map between calls. -/
structure Keep (h0 h : AHeap) (p : Nat) (L : List (List UInt8)) (S : Nat → Prop) : Prop where
  mt : Mt h p L S
  low : h.low = h0.low
  next : h0.next ≤ h.next
  ways : h.get GW = some (.cells waysC 89 false)
theorem edges_w {h : AHeap} {p : Nat} {L : List (List UInt8)} {S : Nat → Prop} (m : Mt h p L S) (f : Fit L) (hw : h.get GW = some (.cells waysC 89 false)) (hgl : GW < h.low) (hl : h.low ≤ h.next) {Q : VQ}
    (hq : ∀ h' S', Mt h' p L S' → (∀ id, S' id → S id ∨ h.next ≤ id) → Fr (fun id => id = p) h h' → Q (.int .i64 (outN L L.flatten.length)) h') : W 11 [pv p] h Q := by
  obtain ⟨kv0, tl0', m0⟩ := m.mp
  have hK := f.k1024
  have hbd : L.length ≤ 4000000 ∧ (L.getD 0 []).length ≤ 4000000 := by have := f.r32; have := f.c32; omega
  have hgp : GW ≠ p := by have := m0.2.2.2.1; omega
  have flen := f.len
  refine AM.enter hp (fn := Tryd.f11) (rs := [.tmp 2]) (nt := 18) (by kernel_rfl) Tryd.func11 rfl rfl rfl (by kernel_rfl) ?_
  (first | (simp (maxSteps := 1000000) (disch := first | omega | (simp only [AM.DB, List.length_set, List.length_map]; first | done | omega)) only [AM.RB, Nat.reduceAdd, Nat.reduceMul, Nat.reduceEqDiff, reduceCtorEq, b11_G21]) | skip); (repeat' ((first | refine AM.drawW_fine hp (by kernel_rfl) (by kernel_rfl) ?_ | refine AM.opW_tied (by kernel_rfl) ?_ | refine AM.opW_untied (by kernel_rfl) ?_ | refine AM.build_w ?_); simp (maxSteps := 1000000) (disch := first | omega | (simp only [AM.DB, List.length_set, List.length_map]; first | done | omega)) only [AM.RB, Nat.reduceAdd, Nat.reduceMul, Nat.reduceEqDiff, reduceCtorEq, b11_G21]))
  refine cells_w m0 f.rows hbd _ ?_
  (first | (simp (maxSteps := 1000000) (disch := first | omega | (simp only [AM.DB, List.length_set, List.length_map]; first | done | omega)) only [AM.RB, Nat.reduceAdd, Nat.reduceMul, Nat.reduceEqDiff, reduceCtorEq, b11_G21]) | skip); (repeat' ((first | refine AM.drawW_fine hp (by kernel_rfl) (by kernel_rfl) ?_ | refine AM.opW_tied (by kernel_rfl) ?_ | refine AM.opW_untied (by kernel_rfl) ?_ | refine AM.build_w ?_); simp (maxSteps := 1000000) (disch := first | omega | (simp only [AM.DB, List.length_set, List.length_map]; first | done | omega)) only [AM.RB, Nat.reduceAdd, Nat.reduceMul, Nat.reduceEqDiff, reduceCtorEq, b11_G21]))
  refine AM.loop_w hp 18 (fun i : Nat => [(0, pv p), (3, .int .i64 (outN L i)), (6, .int .i64 (L.length * (L.getD 0 []).length : Nat)), (7, .int .i64 i)])
    (fun i h' => i ≤ L.flatten.length ∧ Fr (fun id => id = p) h h' ∧ ∃ S', Mt h' p L S' ∧ ∀ id, S' id → S id ∨ h.next ≤ id) (fun i => L.flatten.length - i) (by kernel_rfl) 0 ?_ ?_ ?_
  · simp (maxSteps := 1000000) (disch := first | omega | (simp only [AM.DB, List.length_set, List.length_map]; first | done | omega)) only [AM.RB, Nat.reduceAdd, Nat.reduceMul, Nat.reduceEqDiff, reduceCtorEq, b11_G21]
    rfl
  · exact ⟨Nat.zero_le _, Fr.refl _ _, S, m, fun _ q => .inl q⟩
  rintro i h1 ρ ⟨hi, fr1, S1, m1, hS1⟩
  have lw1 := fr1.low
  have nx1 := fr1.next
  have hw1 := fr1.get hw hgp
  have hoi := outN_le f i
  have hnl := nextL_len f i
  simp (maxSteps := 1000000) (disch := first | omega | (simp only [AM.DB, List.length_set, List.length_map]; first | done | omega)) only [AM.RB, Nat.reduceAdd, Nat.reduceMul, Nat.reduceEqDiff, reduceCtorEq, b11_G21]
  refine AM.condV_split (fun hlt => ?_) (fun hlt => ?_)
  · (first | (simp (maxSteps := 1000000) (disch := first | omega | (simp only [AM.DB, List.length_set, List.length_map]; first | done | omega)) only [AM.RB, Nat.reduceAdd, Nat.reduceMul, Nat.reduceEqDiff, reduceCtorEq, b11_G21]) | skip); (repeat' ((first | refine AM.drawW_fine hp (by kernel_rfl) (by kernel_rfl) ?_ | refine AM.opW_tied (by kernel_rfl) ?_ | refine AM.opW_untied (by kernel_rfl) ?_ | refine AM.build_w ?_); simp (maxSteps := 1000000) (disch := first | omega | (simp only [AM.DB, List.length_set, List.length_map]; first | done | omega)) only [AM.RB, Nat.reduceAdd, Nat.reduceMul, Nat.reduceEqDiff, reduceCtorEq, b11_G21]))
    refine next_w m1 f hw1 (by omega) (by omega) i fun v h2 S2 m2 hS2 o2 fr2 hid2 => ?_
    obtain ⟨va, vc, rfl⟩ := o2.form
    (first | (simp (maxSteps := 1000000) (disch := first | omega | (simp only [AM.DB, List.length_set, List.length_map]; first | done | omega)) only [AM.RB, Nat.reduceAdd, Nat.reduceMul, Nat.reduceEqDiff, reduceCtorEq, b11_G21, AM.wrap_i64]) | skip); (repeat' ((first | refine AM.drawW_fine hp (by kernel_rfl) (by kernel_rfl) ?_ | refine AM.opW_tied (by kernel_rfl) ?_ | refine AM.opW_untied (by kernel_rfl) ?_ | refine AM.build_w ?_); simp (maxSteps := 1000000) (disch := first | omega | (simp only [AM.DB, List.length_set, List.length_map]; first | done | omega)) only [AM.RB, Nat.reduceAdd, Nat.reduceMul, Nat.reduceEqDiff, reduceCtorEq, b11_G21, AM.wrap_i64]))
    refine ⟨i + 1, by omega, ⟨by rw [outN]; rfl, congrArg _ (by omega)⟩, by omega, fr1.then fr2 (fun _ _ q => q), S2, m2, fun id q => ?_⟩
    rcases hS2 id q with q | q
    · exact hS1 id q
    · exact .inr (by omega)
  · have e : i = L.flatten.length := by omega
    subst e
    (first | (simp (maxSteps := 1000000) (disch := first | omega | (simp only [AM.DB, List.length_set, List.length_map]; first | done | omega)) only [AM.RB, Nat.reduceAdd, Nat.reduceMul, Nat.reduceEqDiff, reduceCtorEq, b11_G21]) | skip); (repeat' ((first | refine AM.drawW_fine hp (by kernel_rfl) (by kernel_rfl) ?_ | refine AM.opW_tied (by kernel_rfl) ?_ | refine AM.opW_untied (by kernel_rfl) ?_ | refine AM.build_w ?_); simp (maxSteps := 1000000) (disch := first | omega | (simp only [AM.DB, List.length_set, List.length_map]; first | done | omega)) only [AM.RB, Nat.reduceAdd, Nat.reduceMul, Nat.reduceEqDiff, reduceCtorEq, b11_G21]))
    exact hq h1 S1 m1 hS1 fr1

end Go.Proofs.YtdimjemgganegaaDoor

namespace Go.Proofs.YtdimjemgganegaaDoor
open Go.AM
set_option maxRecDepth 8000
theorem b7_G23 : type_of% (And.intro (@AM.bin_eql) (And.intro (AM.bsW_int bs_29) (And.intro (AM.bsW_int3 bs_29) (And.intro (AM.bsW_int5 bs_29) (And.intro (AM.bsW_nil bs_29) (And.intro (AM.bsW_slice bs_29) (And.intro (AM.bsW_string bs_29) (And.intro (@AM.ex_tuple) (And.intro (AM.len_slice ul_29) (And.intro (@AM.op_binOp) (And.intro (@AM.op_buildSlice) (And.intro (@AM.op_call) (And.intro (@AM.op_extract) (@AM.op_len)))))))))))))) := And.intro (@AM.bin_eql) (And.intro (AM.bsW_int bs_29) (And.intro (AM.bsW_int3 bs_29) (And.intro (AM.bsW_int5 bs_29) (And.intro (AM.bsW_nil bs_29) (And.intro (AM.bsW_slice bs_29) (And.intro (AM.bsW_string bs_29) (And.intro (@AM.ex_tuple) (And.intro (AM.len_slice ul_29) (And.intro (@AM.op_binOp) (And.intro (@AM.op_buildSlice) (And.intro (@AM.op_call) (And.intro (@AM.op_extract) (@AM.op_len)))))))))))))


/-! ### The chapter's first example -/
def exT : List UInt8 := [46, 46, 62, 10, 35, 46, 118, 10]
def exL : List (List UInt8) := [[46, 46, 62], [35, 46, 118]]
theorem ex_verd : verd exT = .ok exL := by kernel_rfl
theorem ex_out : outN exL exL.flatten.length = 6 := by kernel_rfl
theorem ex_all : allP exL.flatten exL.flatten.length = [0, 1, 2, 4, 5] := by kernel_rfl
theorem ex_n1 : nextL exL 1 = [0, 2, 4] := by kernel_rfl
theorem ex_n2 : nextL exL 2 = [] := by kernel_rfl
theorem ex_b4 : backL exL 4 = [1] := by kernel_rfl
set_option maxHeartbeats 4000000 in
theorem alive_w {h : AHeap} (hw : h.get GW = some (.cells waysC 89 false)) (hgl : GW < h.low) (hl : h.low ≤ h.next) {Q : VQ} (hq : ∀ h', Fr none' h h' → Q (.bool true) h') : W 7 [] h Q := by
  have G := verd_good ex_verd
  have f := G.fit
  refine AM.enter hp (fn := Tryd.f7) (rs := [.tmp 0]) (nt := 52) (by kernel_rfl) Tryd.func7 rfl rfl rfl (by kernel_rfl) ?_
  (first | (simp (maxSteps := 1000000) (disch := first | omega | (simp only [AM.DB, List.length_set, List.length_map]; first | done | omega)) only [AM.RB, Nat.reduceAdd, Nat.reduceMul, Nat.reduceEqDiff, reduceCtorEq, b7_G23]) | skip); (repeat' ((first | refine AM.drawW_fine hp (by kernel_rfl) (by kernel_rfl) ?_ | refine AM.opW_tied (by kernel_rfl) ?_ | refine AM.opW_untied (by kernel_rfl) ?_ | refine AM.build_w ?_); simp (maxSteps := 1000000) (disch := first | omega | (simp only [AM.DB, List.length_set, List.length_map]; first | done | omega)) only [AM.RB, Nat.reduceAdd, Nat.reduceMul, Nat.reduceEqDiff, reduceCtorEq, b7_G23]))
  refine parseV_w exT (by decide) hl (fun a b hv => by rw [ex_verd] at hv; cases hv) (fun L hv p kv h1 m0 fr1 hp1 hid1 => ?_)
  rw [ex_verd] at hv
  cases hv
  have hw1 := hw.fr0 fr1
  have lw1 := fr1.low
  have nx1 := fr1.next
  have mt1 := Mt.start m0
  have hgp : GW ≠ p := by omega
  (first | (simp (maxSteps := 1000000) (disch := first | omega | (simp only [AM.DB, List.length_set, List.length_map]; first | done | omega)) only [AM.RB, Nat.reduceAdd, Nat.reduceMul, Nat.reduceEqDiff, reduceCtorEq, b7_G23, AM.wrap_i64]) | skip); (repeat' ((first | refine AM.drawW_fine hp (by kernel_rfl) (by kernel_rfl) ?_ | refine AM.opW_tied (by kernel_rfl) ?_ | refine AM.opW_untied (by kernel_rfl) ?_ | refine AM.build_w ?_); simp (maxSteps := 1000000) (disch := first | omega | (simp only [AM.DB, List.length_set, List.length_map]; first | done | omega)) only [AM.RB, Nat.reduceAdd, Nat.reduceMul, Nat.reduceEqDiff, reduceCtorEq, b7_G23, AM.wrap_i64]))
  refine rows_w m0 f.rows _ ?_
  have d2 : decide ((exL.length : Int) = 2) = true := by decide
  have d3 : decide (((exL.getD 0 []).length : Int) = 3) = true := by decide
  have d6 : decide ((outN exL exL.flatten.length : Int) = 6) = true := by rw [ex_out]; rfl
  have hK := f.k1024
  (first | (simp (maxSteps := 1000000) (disch := first | omega | (simp only [AM.DB, List.length_set, List.length_map]; first | done | omega)) only [AM.RB, Nat.reduceAdd, Nat.reduceMul, Nat.reduceEqDiff, reduceCtorEq, b7_G23, d2]) | skip); (repeat' ((first | refine AM.drawW_fine hp (by kernel_rfl) (by kernel_rfl) ?_ | refine AM.opW_tied (by kernel_rfl) ?_ | refine AM.opW_untied (by kernel_rfl) ?_ | refine AM.build_w ?_); simp (maxSteps := 1000000) (disch := first | omega | (simp only [AM.DB, List.length_set, List.length_map]; first | done | omega)) only [AM.RB, Nat.reduceAdd, Nat.reduceMul, Nat.reduceEqDiff, reduceCtorEq, b7_G23, d2]))
  refine cols_w m0 f.rows _ ?_
  (first | (simp (maxSteps := 1000000) (disch := first | omega | (simp only [AM.DB, List.length_set, List.length_map]; first | done | omega)) only [AM.RB, Nat.reduceAdd, Nat.reduceMul, Nat.reduceEqDiff, reduceCtorEq, b7_G23, d3]) | skip); (repeat' ((first | refine AM.drawW_fine hp (by kernel_rfl) (by kernel_rfl) ?_ | refine AM.opW_tied (by kernel_rfl) ?_ | refine AM.opW_untied (by kernel_rfl) ?_ | refine AM.build_w ?_); simp (maxSteps := 1000000) (disch := first | omega | (simp only [AM.DB, List.length_set, List.length_map]; first | done | omega)) only [AM.RB, Nat.reduceAdd, Nat.reduceMul, Nat.reduceEqDiff, reduceCtorEq, b7_G23, d3]))
  refine edges_w mt1 f hw1 (by omega) (fr1.hl hl) fun h2 S2 mt2 hS2 fr2 => ?_
  obtain ⟨kv2, tl2, m2⟩ := mt2.mp
  have hw2 := fr2.get hw1 hgp
  have lw2 := fr2.low
  have nx2 := fr2.next
  (first | (simp (maxSteps := 1000000) (disch := first | omega | (simp only [AM.DB, List.length_set, List.length_map]; first | done | omega)) only [AM.RB, Nat.reduceAdd, Nat.reduceMul, Nat.reduceEqDiff, reduceCtorEq, b7_G23, d6]) | skip); (repeat' ((first | refine AM.drawW_fine hp (by kernel_rfl) (by kernel_rfl) ?_ | refine AM.opW_tied (by kernel_rfl) ?_ | refine AM.opW_untied (by kernel_rfl) ?_ | refine AM.build_w ?_); simp (maxSteps := 1000000) (disch := first | omega | (simp only [AM.DB, List.length_set, List.length_map]; first | done | omega)) only [AM.RB, Nat.reduceAdd, Nat.reduceMul, Nat.reduceEqDiff, reduceCtorEq, b7_G23, d6]))
  refine all_w m2 f.rows (by omega) (by omega) _ fun va h3 o3 fr3 hid3 => ?_
  rw [ex_all] at o3
  obtain ⟨vaa, vac, rfl⟩ := o3.form
  have mt3 := mt2.fr0 fr3
  have hw3 := hw2.fr0 fr3
  have lw3 := fr3.low
  have nx3 := fr3.next
  (first | (simp (maxSteps := 1000000) (disch := first | omega | (simp only [AM.DB, List.length_set, List.length_map]; first | done | omega)) only [AM.RB, Nat.reduceAdd, Nat.reduceMul, Nat.reduceEqDiff, reduceCtorEq, b7_G23]) | skip); (repeat' ((first | refine AM.drawW_fine hp (by kernel_rfl) (by kernel_rfl) ?_ | refine AM.opW_tied (by kernel_rfl) ?_ | refine AM.opW_untied (by kernel_rfl) ?_ | refine AM.build_w ?_); simp (maxSteps := 1000000) (disch := first | omega | (simp only [AM.DB, List.length_set, List.length_map]; first | done | omega)) only [AM.RB, Nat.reduceAdd, Nat.reduceMul, Nat.reduceEqDiff, reduceCtorEq, b7_G23]))
  generalize hE_ : AHeap.alloc h3 _ = h4; obtain ⟨g4, fr4, n4, l4⟩ := AM.new_get hE_; clear hE_
  have r4 : Rd h4 3 1 (.slice (some ⟨h3.next, 0, none⟩) 5 5) 5 (([0, 1, 2, 4, 5] : List Int).map (.int .i64)) := AM.Rd.whole (n := 5) g4 rfl
  refine same_w (o3.fr0 fr4).rd r4 (by simp) ?_
  have mt4 := mt3.fr0 fr4
  have hw4 := hw3.fr0 fr4
  have lw4 := fr4.low
  rw [decide_eq_true rfl]
  (first | (simp (maxSteps := 1000000) (disch := first | omega | (simp only [AM.DB, List.length_set, List.length_map]; first | done | omega)) only [AM.RB, Nat.reduceAdd, Nat.reduceMul, Nat.reduceEqDiff, reduceCtorEq, b7_G23]) | skip); (repeat' ((first | refine AM.drawW_fine hp (by kernel_rfl) (by kernel_rfl) ?_ | refine AM.opW_tied (by kernel_rfl) ?_ | refine AM.opW_untied (by kernel_rfl) ?_ | refine AM.build_w ?_); simp (maxSteps := 1000000) (disch := first | omega | (simp only [AM.DB, List.length_set, List.length_map]; first | done | omega)) only [AM.RB, Nat.reduceAdd, Nat.reduceMul, Nat.reduceEqDiff, reduceCtorEq, b7_G23]))
  refine next_w mt4 f hw4 (by omega) (by omega) 1 fun v5 h5 S5 mt5 hS5 o5 fr5 hid5 => ?_
  rw [ex_n1] at o5
  obtain ⟨v5a, v5c, rfl⟩ := o5.form
  have hw5 := fr5.get hw4 hgp
  have lw5 := fr5.low
  have nx5 := fr5.next
  (first | (simp (maxSteps := 1000000) (disch := first | omega | (simp only [AM.DB, List.length_set, List.length_map]; first | done | omega)) only [AM.RB, Nat.reduceAdd, Nat.reduceMul, Nat.reduceEqDiff, reduceCtorEq, b7_G23]) | skip); (repeat' ((first | refine AM.drawW_fine hp (by kernel_rfl) (by kernel_rfl) ?_ | refine AM.opW_tied (by kernel_rfl) ?_ | refine AM.opW_untied (by kernel_rfl) ?_ | refine AM.build_w ?_); simp (maxSteps := 1000000) (disch := first | omega | (simp only [AM.DB, List.length_set, List.length_map]; first | done | omega)) only [AM.RB, Nat.reduceAdd, Nat.reduceMul, Nat.reduceEqDiff, reduceCtorEq, b7_G23]))
  generalize hE_ : AHeap.alloc h5 _ = h6; obtain ⟨g6, fr6, n6, l6⟩ := AM.new_get hE_; clear hE_
  have r6 : Rd h6 3 1 (.slice (some ⟨h5.next, 0, none⟩) 3 3) 3 (([0, 2, 4] : List Int).map (.int .i64)) := AM.Rd.whole (n := 3) g6 rfl
  refine same_w (o5.fr0 fr6).rd r6 (by simp) ?_
  have mt6 := mt5.fr0 fr6
  have hw6 := hw5.fr0 fr6
  have lw6 := fr6.low
  rw [decide_eq_true rfl]
  (first | (simp (maxSteps := 1000000) (disch := first | omega | (simp only [AM.DB, List.length_set, List.length_map]; first | done | omega)) only [AM.RB, Nat.reduceAdd, Nat.reduceMul, Nat.reduceEqDiff, reduceCtorEq, b7_G23]) | skip); (repeat' ((first | refine AM.drawW_fine hp (by kernel_rfl) (by kernel_rfl) ?_ | refine AM.opW_tied (by kernel_rfl) ?_ | refine AM.opW_untied (by kernel_rfl) ?_ | refine AM.build_w ?_); simp (maxSteps := 1000000) (disch := first | omega | (simp only [AM.DB, List.length_set, List.length_map]; first | done | omega)) only [AM.RB, Nat.reduceAdd, Nat.reduceMul, Nat.reduceEqDiff, reduceCtorEq, b7_G23]))
  refine next_w mt6 f hw6 (by omega) (by omega) 2 fun v7 h7 S7 mt7 hS7 o7 fr7 hid7 => ?_
  rw [ex_n2] at o7
  obtain ⟨v7a, v7c, rfl⟩ := o7.form
  have hw7 := fr7.get hw6 hgp
  have lw7 := fr7.low
  have nx7 := fr7.next
  (first | (simp (maxSteps := 1000000) (disch := first | omega | (simp only [AM.DB, List.length_set, List.length_map]; first | done | omega)) only [AM.RB, Nat.reduceAdd, Nat.reduceMul, Nat.reduceEqDiff, reduceCtorEq, b7_G23, List.length_nil]) | skip); (repeat' ((first | refine AM.drawW_fine hp (by kernel_rfl) (by kernel_rfl) ?_ | refine AM.opW_tied (by kernel_rfl) ?_ | refine AM.opW_untied (by kernel_rfl) ?_ | refine AM.build_w ?_); simp (maxSteps := 1000000) (disch := first | omega | (simp only [AM.DB, List.length_set, List.length_map]; first | done | omega)) only [AM.RB, Nat.reduceAdd, Nat.reduceMul, Nat.reduceEqDiff, reduceCtorEq, b7_G23, List.length_nil]))
  refine back_w mt7 f hw7 (by omega) (by omega) 4 fun v8 h8 S8 mt8 hS8 o8 fr8 hid8 => ?_
  rw [ex_b4] at o8
  obtain ⟨v8a, v8c, rfl⟩ := o8.form
  have lw8 := fr8.low
  have nx8 := fr8.next
  (first | (simp (maxSteps := 1000000) (disch := first | omega | (simp only [AM.DB, List.length_set, List.length_map]; first | done | omega)) only [AM.RB, Nat.reduceAdd, Nat.reduceMul, Nat.reduceEqDiff, reduceCtorEq, b7_G23]) | skip); (repeat' ((first | refine AM.drawW_fine hp (by kernel_rfl) (by kernel_rfl) ?_ | refine AM.opW_tied (by kernel_rfl) ?_ | refine AM.opW_untied (by kernel_rfl) ?_ | refine AM.build_w ?_); simp (maxSteps := 1000000) (disch := first | omega | (simp only [AM.DB, List.length_set, List.length_map]; first | done | omega)) only [AM.RB, Nat.reduceAdd, Nat.reduceMul, Nat.reduceEqDiff, reduceCtorEq, b7_G23]))
  generalize hE_ : AHeap.alloc h8 _ = h9; obtain ⟨g9, fr9, n9, l9⟩ := AM.new_get hE_; clear hE_
  have r9 : Rd h9 3 1 (.slice (some ⟨h8.next, 0, none⟩) 1 1) 1 (([1] : List Int).map (.int .i64)) := AM.Rd.whole (n := 1) g9 rfl
  refine same_w (o8.fr0 fr9).rd r9 (by simp) ?_
  rw [decide_eq_true rfl]
  (first | (simp (maxSteps := 1000000) (disch := first | omega | (simp only [AM.DB, List.length_set, List.length_map]; first | done | omega)) only [AM.RB, Nat.reduceAdd, Nat.reduceMul, Nat.reduceEqDiff, reduceCtorEq, b7_G23]) | skip); (repeat' ((first | refine AM.drawW_fine hp (by kernel_rfl) (by kernel_rfl) ?_ | refine AM.opW_tied (by kernel_rfl) ?_ | refine AM.opW_untied (by kernel_rfl) ?_ | refine AM.build_w ?_); simp (maxSteps := 1000000) (disch := first | omega | (simp only [AM.DB, List.length_set, List.length_map]; first | done | omega)) only [AM.RB, Nat.reduceAdd, Nat.reduceMul, Nat.reduceEqDiff, reduceCtorEq, b7_G23]))
  have hpf : ∀ id, id = p → h.next ≤ id := fun id e => by omega
  exact hq _ ((((((((fr1.fresh fr2 hpf).trans fr3).trans fr4).fresh fr5 hpf).trans fr6).fresh fr7 hpf).fresh fr8 hpf).trans fr9)

end Go.Proofs.YtdimjemgganegaaDoor

namespace Go.Proofs.YtdimjemgganegaaDoor
open Go.AM

/-! ### Laws of edges -/
def inN (L : List (List UInt8)) : Nat → Nat
  | 0 => 0
  | k + 1 => inN L k + (backL L k).length
theorem sum_from (E : List Ed) : ∀ n, (∀ e ∈ E, True) → ((List.range n).map fun j => (fromE E j).length).sum = (E.filter fun e => decide (e.1 < n)).length
  | 0, _ => by
    have : E.filter (fun e => decide (e.1 < 0)) = [] := List.filter_eq_nil_iff.2 fun e _ => by simp
    rw [this]; rfl
  | n + 1, h => by
    rw [List.range_succ, List.map_append, List.sum_append, sum_from E n h]
    simp only [List.map_cons, List.map_nil, List.sum_cons, List.sum_nil, Nat.add_zero]
    unfold fromE
    rw [List.length_map]
    clear h
    induction E with
    | nil => rfl
    | cons e E ih =>
      simp only [List.filter_cons]
      by_cases h1 : e.1 < n
      · have h2 : ¬ e.1 = n := by omega
        have h3 : e.1 < n + 1 := by omega
        simp only [h1, h2, h3, decide_true, decide_false, if_true, Bool.false_eq_true, if_false, List.length_cons]
        omega
      · by_cases h2 : e.1 = n
        · have h3 : e.1 < n + 1 := by omega
          simp only [h1, h2, decide_true, decide_false, if_true, Bool.false_eq_true, if_false, List.length_cons, show n < n + 1 by omega, Nat.lt_irrefl]
          omega
        · have h3 : ¬ e.1 < n + 1 := by omega
          simp only [h1, h2, h3, decide_false, Bool.false_eq_true, if_false]
          omega
theorem sum_into (E : List Ed) : ∀ n, ((List.range n).map fun j => (intoE E j).length).sum = (E.filter fun e => decide (e.2 < n)).length
  | 0 => by
    have : E.filter (fun e => decide (e.2 < 0)) = [] := List.filter_eq_nil_iff.2 fun e _ => by simp
    rw [this]; rfl
  | n + 1 => by
    rw [List.range_succ, List.map_append, List.sum_append, sum_into E n]
    simp only [List.map_cons, List.map_nil, List.sum_cons, List.sum_nil, Nat.add_zero]
    unfold intoE
    rw [List.length_map]
    induction E with
    | nil => rfl
    | cons e E ih =>
      simp only [List.filter_cons]
      by_cases h1 : e.2 < n
      · have h2 : ¬ e.2 = n := by omega
        have h3 : e.2 < n + 1 := by omega
        simp only [h1, h2, h3, decide_true, decide_false, if_true, Bool.false_eq_true, if_false, List.length_cons]
        omega
      · by_cases h2 : e.2 = n
        · simp only [h1, h2, decide_true, decide_false, if_true, Bool.false_eq_true, if_false, List.length_cons, show n < n + 1 by omega, Nat.lt_irrefl]
          omega
        · have h3 : ¬ e.2 < n + 1 := by omega
          simp only [h1, h2, h3, decide_false, Bool.false_eq_true, if_false]
          omega
theorem edgesTo_mem {K : List UInt8} {R C : Nat} (hC : 0 < C) : ∀ {n : Nat} {e : Ed}, e ∈ edgesTo K R C n → e.1 < n ∧ e.2 < R * C
  | 0, e, h => by cases h
  | n + 1, e, h => by
    rw [edgesTo, List.mem_append] at h
    rcases h with h | h
    · have := edgesTo_mem hC h; omega
    · unfold edgesW at h
      obtain ⟨q, hq, rfl⟩ := List.mem_map.1 h
      have h1 := (List.mem_filter.1 hq).1
      unfold sidesF at h1
      obtain ⟨b, hb, hbl⟩ := cellTo_lt hC (List.mem_filter.1 h1).2
      simp only [hb, Int.toNat_natCast]
      exact ⟨by omega, hbl⟩
theorem outN_sum (L : List (List UInt8)) : ∀ k, k ≤ L.flatten.length → outN L k = ((List.range k).map fun j => (fromE (edgesL L) j).length).sum
  | 0, _ => rfl
  | k + 1, h => by
    rw [outN, outN_sum L k (by omega), List.range_succ, List.map_append, List.sum_append]
    have : nextL L (k : Int) = fromE (edgesL L) k := by unfold nextL; rw [if_pos (by omega), Int.toNat_natCast]
    rw [this]; simp
theorem inN_sum (L : List (List UInt8)) : ∀ k, k ≤ L.flatten.length → inN L k = ((List.range k).map fun j => (intoE (edgesL L) j).length).sum
  | 0, _ => rfl
  | k + 1, h => by
    rw [inN, inN_sum L k (by omega), List.range_succ, List.map_append, List.sum_append]
    have : backL L (k : Int) = intoE (edgesL L) k := by unfold backL; rw [if_pos (by omega), Int.toNat_natCast]
    rw [this]; simp
theorem in_out {L : List (List UInt8)} (f : Fit L) : inN L L.flatten.length = outN L L.flatten.length := by
  rw [inN_sum L _ (Nat.le_refl _), outN_sum L _ (Nat.le_refl _), sum_into, sum_from _ _ (fun _ _ => trivial)]
  have h1 : (edgesL L).filter (fun e => decide (e.2 < L.flatten.length)) = edgesL L := List.filter_eq_self.2 fun e he => by
    have := edgesTo_mem f.cols he
    rw [f.len]; exact decide_eq_true this.2
  have h2 : (edgesL L).filter (fun e => decide (e.1 < L.flatten.length)) = edgesL L := List.filter_eq_self.2 fun e he => decide_eq_true (edgesTo_mem f.cols he).1
  rw [h1, h2]
theorem inN_le {L : List (List UInt8)} (f : Fit L) : ∀ k, inN L k ≤ 1024 * k
  | 0 => Nat.le_refl _
  | k + 1 => by have := inN_le f k; have := backL_len f k; rw [inN]; omega
/-- What an edge tells. -/
theorem edgeL_facts {L : List (List UInt8)} {a b : Int} (h : edgeL L a b = true) : ((0 ≤ a ∧ a < L.flatten.length) ∧ 0 ≤ b ∧ b < L.flatten.length) ∧ farL L a b = 1 ∧ freeP L.flatten a = true ∧ freeP L.flatten b = true := by
  unfold edgeL edgeN at h
  simp only [Bool.and_eq_true, decide_eq_true_eq, Bool.or_eq_true, Bool.not_eq_true', decide_eq_false_iff_not] at h
  obtain ⟨hin, ⟨⟨⟨h1, h2⟩, h3⟩, _⟩, _⟩ := h
  refine ⟨hin, by unfold farL; rw [if_pos hin]; exact h3, ?_, ?_⟩
  · unfold freeP kindP
    rw [decide_eq_true hin.1, if_pos hin.1.1, Bool.true_and]
    have : decide (L.flatten.getD a.toNat 0 = 35) = false := decide_eq_false fun e => h1 (by rw [e]; rfl)
    rw [this]; rfl
  · unfold freeP kindP
    rw [decide_eq_true hin.2, if_pos hin.2.1, Bool.true_and]
    have : decide (L.flatten.getD b.toNat 0 = 35) = false := decide_eq_false fun e => h2 (by rw [e]; rfl)
    rw [this]; rfl
theorem farN_comm (C a b : Nat) : farN C a b = farN C b a := by unfold farN; omega
/-- Between cells side by side that are not one-way edges go both ways. -/
theorem edgeL_both {L : List (List UInt8)} {a b : Int} (h : edgeL L a b = true) (ha : ((kindP L.flatten a).toNat : Int) = 46) (hb : ((kindP L.flatten b).toNat : Int) = 46) : edgeL L b a = true := by
  obtain ⟨hin, _, _, _⟩ := edgeL_facts h
  unfold kindP at ha hb
  rw [if_pos hin.1.1] at ha
  rw [if_pos hin.2.1] at hb
  unfold edgeL edgeN at h ⊢
  simp only [Bool.and_eq_true, decide_eq_true_eq, Bool.or_eq_true, Bool.not_eq_true', decide_eq_false_iff_not] at h ⊢
  obtain ⟨_, ⟨⟨⟨h1, h2⟩, h3⟩, _⟩, _⟩ := h
  refine ⟨⟨hin.2, hin.1⟩, ⟨⟨⟨h2, h1⟩, by rw [farN_comm]; exact h3⟩, .inl hb⟩, ?_⟩
  rw [ha]
  unfold wayOf
  split
  · decide
  · split
    · decide
    · split <;> decide
theorem asc_at : ∀ {l : List Nat}, Asc l → ∀ {i j : Nat}, i < j → j < l.length → l.getD i 0 < l.getD j 0
  | [], _, _, _, _, h => by simp at h
  | x :: l, ⟨a1, a2⟩, 0, j + 1, _, h => by
    simp only [List.length_cons] at h
    have hj : j < l.length := by omega
    have : l.getD j 0 = l[j] := by simp [List.getD, hj]
    show x < l.getD j 0
    rw [this]; exact a1 _ (List.getElem_mem hj)
  | x :: l, ⟨a1, a2⟩, i + 1, j + 1, hij, h => by
    simp only [List.length_cons] at h
    exact asc_at (l := l) a2 (i := i) (j := j) (by omega) (by omega)
theorem nextL_asc {L : List (List UInt8)} (f : Fit L) (a : Int) {i j : Nat} (hij : i < j) (hj : j < (nextL L a).length) : (nextL L a).getD i 0 < (nextL L a).getD j 0 := by
  rw [← nxt_eq f] at hj ⊢
  unfold nxt at hj ⊢
  rw [List.length_map] at hj
  have hasc : Asc ((List.range L.flatten.length).filter fun (b : Nat) => edgeL L a b) := asc_filter (asc_range _)
  generalize ((List.range L.flatten.length).filter fun (b : Nat) => edgeL L a b) = l at *
  have hc : ∀ k, k < l.length → (l.map fun (b : Nat) => (b : Int)).getD k 0 = (l.getD k 0 : Nat) := fun k hk => by simp [List.getD, hk]
  rw [hc i (by omega), hc j hj]
  have := asc_at hasc hij hj
  omega
theorem nextL_at {L : List (List UInt8)} (f : Fit L) (a : Int) {i : Nat} (hi : i < (nextL L a).length) : edgeL L a ((nextL L a).getD i 0) = true := by
  rw [← edge_mem f]
  refine decide_eq_true ?_
  have : (nextL L a).getD i 0 = (nextL L a)[i] := by simp [List.getD, hi]
  rw [this]; exact List.getElem_mem hi
theorem backL_mem {L : List (List UInt8)} (f : Fit L) {a b : Int} (h : edgeL L a b = true) : a ∈ backL L b := by
  rw [← bck_eq f]
  unfold bck
  obtain ⟨hin, _⟩ := edgeL_facts h
  obtain ⟨n, rfl⟩ := Int.eq_ofNat_of_zero_le hin.1.1
  exact List.mem_map.2 ⟨n, List.mem_filter.2 ⟨List.mem_range.2 (by omega), h⟩, rfl⟩

end Go.Proofs.YtdimjemgganegaaDoor

namespace Go.Proofs.YtdimjemgganegaaDoor
open Go.AM

/-! ### A text out of rows -/
def textL (L : List (List UInt8)) : List UInt8 := (L.map (· ++ [10])).flatten
/-- Rows that are a map's. -/
structure Rows' (L : List (List UInt8)) (C : Nat) : Prop where
  c0 : 0 < C
  c32 : C ≤ 32
  all : ∀ T ∈ L, T.length = C
  cell : ∀ T ∈ L, ∀ c ∈ T, cellB c = true
theorem rowP_good {T : List UInt8} {c : Int} (hc : (T.length : Int) ≤ c) (h : ∀ x ∈ T, cellB x = true) : ∀ (k i : Nat), i + k ≤ T.length → rowP T c k i = none
  | 0, _, _ => rfl
  | k + 1, i, hk => by
    have hi : i < T.length := by omega
    have hg : T.getD i 0 = T[i] := by simp [List.getD, hi]
    rw [rowP, if_neg, rowP_good hc h k (i + 1) (by omega)]
    rintro (q | q)
    · rw [hg, h _ (List.getElem_mem hi)] at q; cases q
    · omega
theorem refGo_text : ∀ (rows acc : List (List UInt8)) (C : Nat) (f : Bool), Rows' (acc ++ rows) C → (acc ++ rows).length ≤ 32 →
    refGo (textL rows) acc [] f = if (f || rows.any freeL) = true then .ok (acc ++ rows) else .err 0 0
  | [], acc, C, f, _, _ => by
    unfold textL
    rw [List.map_nil, List.flatten_nil, refGo, if_neg (by simp)]
    simp
  | T :: rows, acc, C, f, g, hl => by
    have hT : T.length = C := g.all T (by simp)
    have hcell := g.cell T (by simp)
    have h10 : (10 : UInt8) ∉ T := fun q => by have := hcell 10 q; revert this; decide
    rw [List.length_append, List.length_cons] at hl
    have hcap : capL acc = 32 ∨ capL acc = C := by
      unfold capL
      by_cases e : acc.length = 0
      · rw [if_pos e]; exact .inl rfl
      · rw [if_neg e]
        right
        have h0 : 0 < acc.length := by omega
        have : acc.getD 0 [] = acc[0] := by simp [List.getD, h0]
        rw [this]; exact g.all _ (List.mem_append_left _ (List.getElem_mem h0))
    have hc32 := g.c32
    have hc0 := g.c0
    have e : textL (T :: rows) = T ++ 10 :: textL rows := by unfold textL; rw [List.map_cons, List.flatten_cons, List.append_assoc]; rfl
    have hrow := refGo_row acc T (10 :: textL rows) (by omega) (by rcases hcap with q | q <;> omega) h10 T.length 0 f (by omega) (by omega)
    rw [List.drop_zero, List.take_zero, rowP_good (by rcases hcap with q | q <;> omega) hcell T.length 0 (by omega)] at hrow
    simp only at hrow
    rw [e, hrow, refGo, if_neg (by omega), if_pos rfl, if_neg, refGo_text rows (acc ++ [T]) C _ (by rw [List.append_assoc]; exact g) (by simp; omega), List.append_assoc, List.any_cons, Bool.or_assoc]
    · rfl
    · rintro (q | ⟨q1, q2⟩)
      · omega
      · have : capL acc = (acc.getD 0 []).length := by unfold capL; rw [if_neg (by omega)]
        rcases hcap with q | q
        · have h0 : 0 < acc.length := by omega
          have e2 : acc.getD 0 [] = acc[0] := by simp [List.getD, h0]
          have : acc[0].length = C := g.all _ (List.mem_append_left _ (List.getElem_mem h0))
          rw [e2] at q2; omega
        · omega
theorem verd_text {L : List (List UInt8)} {C : Nat} (g : Rows' L C) (h0 : L ≠ []) (hl : L.length ≤ 32) (hf : L.any freeL = true) : verd (textL L) = .ok L := by
  have hne : textL L ≠ [] := by
    cases L with
    | nil => exact absurd rfl h0
    | cons T L => unfold textL; simp
  unfold verd
  rw [if_neg hne]
  have := refGo_text L [] C false (by simpa using g) (by simpa using hl)
  rw [this, Bool.false_or, if_pos hf, List.nil_append]

end Go.Proofs.YtdimjemgganegaaDoor

namespace Go.Proofs.YtdimjemgganegaaDoor
open Go.AM

/-! ### Walls below, walls above -/
abbrev wallR (C : Nat) : List UInt8 := List.replicate C 35
theorem edgeN_wallA {K : List UInt8} {C a b : Nat} (h : K.getD a 0 = 35) : edgeN K C a b = false := by
  unfold edgeN
  rw [h]; rfl
theorem edgeN_wallB {K : List UInt8} {C a b : Nat} (h : K.getD b 0 = 35) : edgeN K C a b = false := by
  unfold edgeN
  rw [h]; simp
theorem getD_app1 (K W : List UInt8) {a : Nat} (h : a < K.length) : (K ++ W).getD a 0 = K.getD a 0 := by simp [List.getD, List.getElem?_append_left h]
theorem getD_app2 (K : List UInt8) (C : Nat) {a : Nat} (h : K.length ≤ a) (h2 : a < K.length + C) : (K ++ wallR C).getD a 0 = 35 := by
  rw [List.getD, List.getElem?_append_right h, List.getElem?_replicate, if_pos (by omega)]; rfl
theorem getD_wall (K : List UInt8) (C : Nat) {a : Nat} (h : a < C) : (wallR C ++ K).getD a 0 = 35 := by
  rw [List.getD, List.getElem?_append_left (by simpa using h), List.getElem?_replicate, if_pos h]; rfl
theorem getD_wall2 (K : List UInt8) (C a : Nat) : (wallR C ++ K).getD (a + C) 0 = K.getD a 0 := by
  rw [List.getD, List.getD, List.getElem?_append_right (by simp)]; simp
theorem edgeN_app {K W : List UInt8} {C a b : Nat} (ha : a < K.length) (hb : b < K.length) : edgeN (K ++ W) C a b = edgeN K C a b := by
  unfold edgeN; rw [getD_app1 K W ha, getD_app1 K W hb]
theorem edgeN_shift {K : List UInt8} {C a b : Nat} (hC : 0 < C) : edgeN (wallR C ++ K) C (a + C) (b + C) = edgeN K C a b := by
  have hf : farN C (a + C) (b + C) = farN C a b := by
    unfold farN
    rw [Nat.add_div_right _ hC, Nat.add_div_right _ hC, Nat.add_mod_right, Nat.add_mod_right]
    generalize a / C = x
    generalize b / C = y
    generalize a % C = z
    generalize b % C = t
    omega
  have hw : wayOf C (a + C) (b + C) = wayOf C a b := by
    unfold wayOf
    rw [Nat.add_div_right _ hC, Nat.add_div_right _ hC]
    generalize a / C = x
    generalize b / C = y
    have e1 : ((((b + C : Nat) : Int) = ((a + C : Nat) : Int) - 1) ∧ y.succ = x.succ) ↔ ((b : Int) = (a : Int) - 1 ∧ y = x) := by omega
    simp only [e1, Nat.succ_lt_succ_iff]
  unfold edgeN
  rw [getD_wall2, getD_wall2, hf, hw]
theorem range_add (n m : Nat) : List.range (n + m) = List.range n ++ (List.range m).map (n + ·) := List.range_add
theorem filter_app {K : List UInt8} {C a : Nat} (ha : a < K.length) : ((List.range (K.length + C)).filter (edgeN (K ++ wallR C) C a)) = (List.range K.length).filter (edgeN K C a) := by
  rw [range_add, List.filter_append]
  have h1 : (List.range K.length).filter (edgeN (K ++ wallR C) C a) = (List.range K.length).filter (edgeN K C a) := List.filter_congr fun b hb => edgeN_app ha (List.mem_range.1 hb)
  have h2 : ((List.range C).map (K.length + ·)).filter (edgeN (K ++ wallR C) C a) = [] := List.filter_eq_nil_iff.2 fun b hb => by
    obtain ⟨c, hc, rfl⟩ := List.mem_map.1 hb
    have := List.mem_range.1 hc
    rw [edgeN_wallB (getD_app2 K C (by omega) (by omega))]; simp
  rw [h1, h2, List.append_nil]
theorem filter_wall {K : List UInt8} {C a : Nat} (hC : 0 < C) : ((List.range (C + K.length)).filter (edgeN (wallR C ++ K) C (a + C))) = ((List.range K.length).filter (edgeN K C a)).map (C + ·) := by
  rw [range_add, List.filter_append]
  have h1 : (List.range C).filter (edgeN (wallR C ++ K) C (a + C)) = [] := List.filter_eq_nil_iff.2 fun b hb => by
    rw [edgeN_wallB (getD_wall K C (List.mem_range.1 hb))]; simp
  rw [h1, List.nil_append, List.filter_map]
  congr 1
  refine List.filter_congr fun b _ => ?_
  show edgeN (wallR C ++ K) C (a + C) (C + b) = _
  rw [Nat.add_comm C b, edgeN_shift hC]

end Go.Proofs.YtdimjemgganegaaDoor

namespace Go.Proofs.YtdimjemgganegaaDoor
open Go.AM

abbrev colsL (L : List (List UInt8)) : Nat := (L.getD 0 []).length
theorem textP_text {L : List (List UInt8)} (h : ∀ T ∈ L, T.length = colsL L) : ∀ k, k ≤ L.length → textP L.flatten (colsL L) k = textL (L.take k)
  | 0, _ => rfl
  | k + 1, hk => by
    have hg : L.getD k [] = L[k] := by simp [List.getD, show k < L.length by omega]
    rw [textP, textP_text h k (by omega), flat_drop L h k (by omega), hg]
    unfold textL
    rw [List.take_add_one, List.getElem?_eq_getElem (show k < L.length by omega), List.map_append, List.flatten_append]
    simp
theorem Good.text' {l : List UInt8} {L : List (List UInt8)} (g : Good l L) : l = textL L := by
  rw [← g.text, textP_text g.all _ (Nat.le_refl _), List.take_length]
theorem Good.rows' {l : List UInt8} {L : List (List UInt8)} (g : Good l L) : Rows' L (colsL L) :=
  ⟨g.cols, g.c32, g.all, fun T hT c hc => g.cell c (List.mem_flatten.2 ⟨T, hT, hc⟩)⟩
theorem Good.any {l : List UInt8} {L : List (List UInt8)} (g : Good l L) : L.any freeL = true := by
  rw [← any_flat]; exact (allP_any _).1 g.some
def below (L : List (List UInt8)) : List (List UInt8) := L ++ [wallR (colsL L)]
def above (L : List (List UInt8)) : List (List UInt8) := wallR (colsL L) :: L
theorem below_cols {L : List (List UInt8)} (h : 0 < L.length) : (below L).getD 0 [] = L.getD 0 [] := by
  unfold below
  rw [List.getD, List.getD, List.getElem?_append_left h]
theorem above_cols (L : List (List UInt8)) : colsL (above L) = colsL L := by
  show (List.replicate (colsL L) (35 : UInt8)).length = colsL L
  rw [List.length_replicate]
theorem below_verd {l : List UInt8} {L : List (List UInt8)} (g : Good l L) (hr : L.length < 32) : verd (textL (below L)) = .ok (below L) := by
  have r := g.rows'
  refine verd_text (C := colsL L) ⟨r.c0, r.c32, fun T hT => ?_, fun T hT c hc => ?_⟩ (by unfold below; simp) (by unfold below; simp; omega) (by unfold below; rw [List.any_append, g.any]; rfl)
  · unfold below at hT
    rcases List.mem_append.1 hT with q | q
    · exact r.all T q
    · rw [List.mem_singleton.1 q]; simp
  · unfold below at hT
    rcases List.mem_append.1 hT with q | q
    · exact r.cell T q c hc
    · rw [List.mem_singleton.1 q] at hc
      rw [(List.mem_replicate.1 hc).2]; rfl
theorem above_verd {l : List UInt8} {L : List (List UInt8)} (g : Good l L) (hr : L.length < 32) : verd (textL (above L)) = .ok (above L) := by
  have r := g.rows'
  refine verd_text (C := colsL L) ⟨r.c0, r.c32, fun T hT => ?_, fun T hT c hc => ?_⟩ (by unfold above; simp) (by unfold above; simp; omega) (by unfold above; rw [List.any_cons, g.any]; simp)
  · unfold above at hT
    rcases List.mem_cons.1 hT with q | q
    · rw [q]; simp
    · exact r.all T q
  · unfold above at hT
    rcases List.mem_cons.1 hT with q | q
    · rw [q] at hc
      rw [(List.mem_replicate.1 hc).2]; rfl
    · exact r.cell T q c hc
theorem below_flat (L : List (List UInt8)) : (below L).flatten = L.flatten ++ wallR (colsL L) := by unfold below; simp
theorem above_flat (L : List (List UInt8)) : (above L).flatten = wallR (colsL L) ++ L.flatten := by unfold above; simp

theorem below_next {L : List (List UInt8)} (f : Fit L) (f1 : Fit (below L)) {i : Nat} (hi : i < L.flatten.length) : nextL (below L) i = nextL L i := by
  have hc := below_cols f.rows
  rw [nextL_eq f1, nextL_eq f, below_flat, List.length_append, List.length_replicate, if_pos (by omega), if_pos (by omega), hc, Int.toNat_natCast, filter_app hi]
theorem below_next0 {L : List (List UInt8)} (f : Fit L) (f1 : Fit (below L)) {i : Nat} (hi : L.flatten.length ≤ i) (hi2 : i < L.flatten.length + colsL L) : nextL (below L) i = [] := by
  have hc := below_cols f.rows
  rw [nextL_eq f1, below_flat, List.length_append, List.length_replicate, if_pos (by omega), hc, Int.toNat_natCast, List.map_eq_nil_iff, List.filter_eq_nil_iff]
  intro b _
  rw [edgeN_wallA (getD_app2 L.flatten (colsL L) hi hi2)]; simp
theorem above_next {L : List (List UInt8)} (f : Fit L) (f1 : Fit (above L)) {i : Nat} (hi : i < L.flatten.length) : nextL (above L) (i + colsL L : Nat) = (nextL L i).map (· + (colsL L : Int)) := by
  have hc : ((above L).getD 0 []).length = colsL L := above_cols L
  rw [nextL_eq f1, nextL_eq f, above_flat, List.length_append, List.length_replicate, if_pos (by omega), if_pos (by omega), hc, Int.toNat_natCast, Int.toNat_natCast, filter_wall f.cols, List.map_map, List.map_map]
  refine List.map_congr_left fun b _ => ?_
  show ((colsL L + b : Nat) : Int) = (b : Int) + (colsL L : Int)
  omega
theorem above_next0 {L : List (List UInt8)} (f1 : Fit (above L)) {i : Nat} (hi : i < colsL L) : nextL (above L) i = [] := by
  have hc : ((above L).getD 0 []).length = colsL L := above_cols L
  rw [nextL_eq f1, above_flat, List.length_append, List.length_replicate, if_pos (by omega), hc, Int.toNat_natCast, List.map_eq_nil_iff, List.filter_eq_nil_iff]
  intro b _
  rw [edgeN_wallA (getD_wall L.flatten (colsL L) hi)]; simp
theorem below_out {L : List (List UInt8)} (f : Fit L) (f1 : Fit (below L)) : outN (below L) (below L).flatten.length = outN L L.flatten.length := by
  have h1 : ∀ k, k ≤ L.flatten.length → outN (below L) k = outN L k := by
    intro k
    induction k with
    | zero => intro _; rfl
    | succ k ih => intro h; rw [outN, outN, ih (by omega), below_next f f1 (by omega)]
  have h2 : ∀ k, k ≤ colsL L → outN (below L) (L.flatten.length + k) = outN L L.flatten.length := by
    intro k
    induction k with
    | zero => intro _; exact h1 _ (Nat.le_refl _)
    | succ k ih => intro h; rw [← Nat.add_assoc, outN, ih (by omega), below_next0 f f1 (by omega) (by omega)]; rfl
  rw [below_flat, List.length_append, List.length_replicate]
  exact h2 _ (Nat.le_refl _)
theorem above_out {L : List (List UInt8)} (f : Fit L) (f1 : Fit (above L)) : outN (above L) (above L).flatten.length = outN L L.flatten.length := by
  have h1 : ∀ k, k ≤ colsL L → outN (above L) k = 0 := by
    intro k
    induction k with
    | zero => intro _; rfl
    | succ k ih => intro h; rw [outN, ih (by omega), above_next0 f1 (by omega)]; rfl
  have h2 : ∀ k, k ≤ L.flatten.length → outN (above L) (colsL L + k) = outN L k := by
    intro k
    induction k with
    | zero => intro _; exact h1 _ (Nat.le_refl _)
    | succ k ih =>
      intro h
      rw [← Nat.add_assoc, outN, outN, ih (by omega), Nat.add_comm (colsL L) k, above_next f f1 (by omega), List.length_map]
  rw [above_flat, List.length_append, List.length_replicate]
  exact h2 _ (Nat.le_refl _)

theorem below_all (L : List (List UInt8)) : allP (below L).flatten (below L).flatten.length = allP L.flatten L.flatten.length := by
  rw [below_flat, List.length_append, List.length_replicate]
  have h1 : ∀ k, k ≤ L.flatten.length → allP (L.flatten ++ wallR (colsL L)) k = allP L.flatten k := by
    intro k
    induction k with
    | zero => intro _; rfl
    | succ k ih =>
      intro h
      have : freeP (L.flatten ++ wallR (colsL L)) k = freeP L.flatten k := by
        have e1 : decide (0 ≤ (k : Int) ∧ (k : Int) < (L.flatten ++ wallR (colsL L)).length) = true := decide_eq_true (by rw [List.length_append]; omega)
        have e2 : decide (0 ≤ (k : Int) ∧ (k : Int) < L.flatten.length) = true := decide_eq_true (by omega)
        unfold freeP kindP
        rw [e1, e2, if_pos (by omega), if_pos (by omega), Int.toNat_natCast, getD_app1 _ _ (by omega)]
      rw [allP, allP, ih (by omega), this]
  have h2 : ∀ k, k ≤ colsL L → allP (L.flatten ++ wallR (colsL L)) (L.flatten.length + k) = allP L.flatten L.flatten.length := by
    intro k
    induction k with
    | zero => intro _; exact h1 _ (Nat.le_refl _)
    | succ k ih =>
      intro h
      have : freeP (L.flatten ++ wallR (colsL L)) (L.flatten.length + k : Nat) = false := by
        unfold freeP kindP
        rw [if_pos (by omega), Int.toNat_natCast, getD_app2 _ _ (by omega) (by omega)]; simp
      rw [← Nat.add_assoc, allP, ih (by omega), this]; simp
  exact h2 _ (Nat.le_refl _)
theorem above_kind (L : List (List UInt8)) (i : Nat) : kindP (above L).flatten ((i : Int) + colsL L) = kindP L.flatten i := by
  unfold kindP
  rw [if_pos (by omega), if_pos (by omega), above_flat, show ((i : Int) + colsL L).toNat = i + colsL L by omega, getD_wall2, Int.toNat_natCast]

end Go.Proofs.YtdimjemgganegaaDoor

namespace Go.Proofs.YtdimjemgganegaaDoor
open Go.AM

/-! ### Several maps at once -/
/-- A map in memory that owns none of some others. -/
def Mk (h : AHeap) (p : Nat) (L : List (List UInt8)) (B : Nat → Prop) : Prop := (∃ S, Mt h p L S ∧ ∀ id, B id → ¬ S id) ∧ ∀ id, B id → id < h.next
theorem Mk.mp {h : AHeap} {p : Nat} {L : List (List UInt8)} {B : Nat → Prop} (m : Mk h p L B) : ∃ kv tl, Mp h p kv L.length (L.getD 0 []).length L.flatten tl := by
  obtain ⟨⟨S, m, _⟩, _⟩ := m
  exact m.mp
theorem Mk.lt {h : AHeap} {p : Nat} {L : List (List UInt8)} {B : Nat → Prop} (m : Mk h p L B) : p < h.next := by
  obtain ⟨⟨S, m, _⟩, _⟩ := m
  exact m.lt m.self
theorem Mk.frB {h h' : AHeap} {p : Nat} {L : List (List UInt8)} {B T : Nat → Prop} (m : Mk h p L B) (fr : Fr T h h') (hT : ∀ id, T id → B id) : Mk h' p L B := by
  obtain ⟨⟨S, m, hB⟩, hb⟩ := m
  have hn := fr.next
  exact ⟨⟨S, m.fr fr fun id q1 q2 => hB id (hT id q2) q1, hB⟩, fun id q => Nat.lt_of_lt_of_le (hb id q) hn⟩
theorem Mk.fr0 {h h' : AHeap} {p : Nat} {L : List (List UInt8)} {B : Nat → Prop} (m : Mk h p L B) (fr : Fr none' h h') : Mk h' p L B := m.frB fr fun _ q => q.elim
theorem Mk.grow {h h' : AHeap} {p : Nat} {L : List (List UInt8)} {B S S' : Nat → Prop} (hB : ∀ id, B id → ¬ S id) (hb : ∀ id, B id → id < h.next) (m' : Mt h' p L S') (hS : ∀ id, S' id → S id ∨ h.next ≤ id) (hn : h.next ≤ h'.next) : Mk h' p L B := by
  refine ⟨⟨S', m', fun id q1 q2 => ?_⟩, fun id q => Nat.lt_of_lt_of_le (hb id q) hn⟩
  have := hb id q1
  rcases hS id q2 with q | q
  · exact hB id q1 q
  · omega
theorem nextK_w {h : AHeap} {p : Nat} {L : List (List UInt8)} {B : Nat → Prop} (m : Mk h p L B) (f : Fit L) (hw : h.get GW = some (.cells waysC 89 false)) (hgl : GW < h.low) (hl : h.low ≤ h.next) (i : Int) {Q : VQ}
    (hq : ∀ v h', Mk h' p L B → Ow h' 3 1 v (nextL L i).length ((nextL L i).map (.int .i64)) → Fr (fun id => id = p) h h' → (∀ id, idOf v id → h.next ≤ id) → Q v h') : W 15 [pv p, .int .i64 i] h Q := by
  obtain ⟨⟨S, m, hB⟩, hb⟩ := m
  exact next_w m f hw hgl hl i fun v h' S' m' hS' o fr hid => hq v h' (Mk.grow hB hb m' hS' fr.next) o fr fun id q => (hid id q).1
theorem edgesK_w {h : AHeap} {p : Nat} {L : List (List UInt8)} {B : Nat → Prop} (m : Mk h p L B) (f : Fit L) (hw : h.get GW = some (.cells waysC 89 false)) (hgl : GW < h.low) (hl : h.low ≤ h.next) {Q : VQ}
    (hq : ∀ h', Mk h' p L B → Fr (fun id => id = p) h h' → Q (.int .i64 (outN L L.flatten.length)) h') : W 11 [pv p] h Q := by
  obtain ⟨⟨S, m, hB⟩, hb⟩ := m
  exact edges_w m f hw hgl hl fun h' S' m' hS' fr => hq h' (Mk.grow hB hb m' hS' fr.next) fr
theorem edgeK_w {h : AHeap} {p : Nat} {L : List (List UInt8)} {B : Nat → Prop} (m : Mk h p L B) (f : Fit L) (hw : h.get GW = some (.cells waysC 89 false)) (hgl : GW < h.low) (hl : h.low ≤ h.next) (a b : Int) {Q : VQ}
    (hq : ∀ h', Mk h' p L B → Fr (fun id => id = p) h h' → Q (.bool (edgeL L a b)) h') : W 17 [pv p, .int .i64 a, .int .i64 b] h Q := by
  obtain ⟨⟨S, m, hB⟩, hb⟩ := m
  exact edge_w m f hw hgl hl a b fun h' S' m' hS' fr => by rw [edge_mem f]; exact hq h' (Mk.grow hB hb m' hS' fr.next) fr
/-- A map that was just read. -/
theorem Mk.start {h h0 : AHeap} {p : Nat} {kv : Value} {L : List (List UInt8)} {B : Nat → Prop} (m : Mp h p kv L.length (L.getD 0 []).length L.flatten tl0) (hp' : h0.next ≤ p) (hid : ∀ id, idOf kv id → h0.next ≤ id) (hn : h0.next ≤ h.next) (hB : ∀ id, B id → id < h0.next) : Mk h p L B :=
  ⟨⟨_, Mt.start m, fun id q1 q2 => by
    have := hB id q1
    rcases q2 with rfl | q2
    · omega
    · have := hid id q2; omega⟩, fun id q => Nat.lt_of_lt_of_le (hB id q) hn⟩
/-- Later ones are none of its own. -/
theorem Mk.more {h : AHeap} {p : Nat} {L : List (List UInt8)} {B C : Nat → Prop} (m : Mk h p L B) {h' : AHeap} (fr : Fr none' h h') (hC : ∀ id, C id → B id ∨ (h.next ≤ id ∧ id < h'.next)) : Mk h' p L C := by
  obtain ⟨⟨S, m, hB⟩, hb⟩ := m
  have hn := fr.next
  refine ⟨⟨S, m.fr0 fr, fun id q1 q2 => ?_⟩, fun id q => ?_⟩
  · rcases hC id q1 with q | q
    · exact hB id q q2
    · have := m.lt q2; omega
  · rcases hC id q with q | q
    · exact Nat.lt_of_lt_of_le (hb id q) hn
    · exact q.2

theorem below_text (L : List (List UInt8)) : textL (below L) = textL L ++ wallR (colsL L) ++ [10] := by unfold textL below; simp
theorem above_text (L : List (List UInt8)) : textL (above L) = wallR (colsL L) ++ [10] ++ textL L := by unfold textL above; simp
theorem below_fit {l : List UInt8} {L : List (List UInt8)} (g : Good l L) (hr : L.length < 32) : Good (textL (below L)) (below L) := verd_good (below_verd g hr)
theorem above_fit {l : List UInt8} {L : List (List UInt8)} (g : Good l L) (hr : L.length < 32) : Good (textL (above L)) (above L) := verd_good (above_verd g hr)
theorem wall_succ (n : Nat) : wallR n ++ [35] = wallR (n + 1) := by unfold wallR; rw [List.replicate_succ']

end Go.Proofs.YtdimjemgganegaaDoor

namespace Go.Proofs.YtdimjemgganegaaDoor
open Go.AM

/-! ### Upside down -/
def tw (c : UInt8) : UInt8 := if c = 94 then 118 else if c = 118 then 94 else c
theorem u8_eq {c : UInt8} {n : Nat} (h : c.toNat = n) (hn : n < 256) : c = UInt8.ofNat n := by
  apply UInt8.toNat_inj.1
  rw [h, UInt8.toNat_ofNat']
  exact (Nat.mod_eq_of_lt hn).symm
theorem tw_nat (c : UInt8) : (tw c).toNat = if c.toNat = 94 then 118 else if c.toNat = 118 then 94 else c.toNat := by
  unfold tw
  by_cases h1 : c = 94
  · rw [if_pos h1, h1]; rfl
  · have : c.toNat ≠ 94 := fun e => h1 (u8_eq (n := 94) e (by decide))
    rw [if_neg h1, if_neg this]
    by_cases h2 : c = 118
    · rw [if_pos h2, h2]; rfl
    · have : c.toNat ≠ 118 := fun e => h2 (u8_eq (n := 118) e (by decide))
      rw [if_neg h2, if_neg this]
theorem tw_dec (c : UInt8) (x y : Int) (h : (x = 94 ∧ y = 118) ∨ (x = 118 ∧ y = 94) ∨ (x = y ∧ x ≠ 94 ∧ x ≠ 118)) : decide (((tw c).toNat : Int) = y) = decide ((c.toNat : Int) = x) := by
  rw [decide_eq_decide, tw_nat]
  split
  · omega
  · split <;> omega
theorem cellB_tw (c : UInt8) : cellB c = true → cellB (tw c) = true := by
  unfold tw
  intro h
  split
  · rfl
  · split
    · rfl
    · exact h
def turn (L : List (List UInt8)) : List (List UInt8) := (L.reverse).map (·.map tw)
theorem turn_len (L : List (List UInt8)) : (turn L).length = L.length := by unfold turn; simp
theorem turn_get (L : List (List UInt8)) {r : Nat} (h : r < L.length) : (turn L).getD r [] = (L.getD (L.length - 1 - r) []).map tw := by
  unfold turn
  have h2 : L.length - 1 - r < L.length := by omega
  have hg : L.getD (L.length - 1 - r) [] = L[L.length - 1 - r] := by simp [List.getD, h2]
  rw [hg, List.getD, List.getElem?_map, List.getElem?_reverse h, List.getElem?_eq_getElem h2]; rfl
theorem turn_all {L : List (List UInt8)} {C : Nat} (h : ∀ T ∈ L, T.length = C) : ∀ T ∈ turn L, T.length = C := by
  intro T hT
  obtain ⟨U, hU, rfl⟩ := List.mem_map.1 hT
  rw [List.length_map]
  exact h U (List.mem_reverse.1 hU)
theorem turn_cols {L : List (List UInt8)} (h : ∀ T ∈ L, T.length = colsL L) (h0 : 0 < L.length) : colsL (turn L) = colsL L := by
  have h1 : 0 < (turn L).length := by rw [turn_len]; exact h0
  have : (turn L).getD 0 [] = (turn L)[0] := by simp [List.getD, h1]
  show ((turn L).getD 0 []).length = _
  rw [this]
  exact turn_all h _ (List.getElem_mem h1)
theorem freeL_tw (T : List UInt8) : freeL (T.map tw) = freeL T := by
  unfold freeL
  rw [List.any_map]
  congr 1
  funext c
  show (!decide (tw c = 35)) = !decide (c = 35)
  congr 1
  rw [decide_eq_decide]
  unfold tw
  split
  · rename_i e; rw [e]; decide
  · split
    · rename_i e; rw [e]; decide
    · exact Iff.rfl
theorem turn_any (L : List (List UInt8)) : (turn L).any freeL = L.any freeL := by
  unfold turn
  rw [List.any_map, List.any_reverse]
  congr 1
  funext T
  exact freeL_tw T
theorem turn_verd {l : List UInt8} {L : List (List UInt8)} (g : Good l L) : verd (textL (turn L)) = .ok (turn L) := by
  have r := g.rows'
  have hl := turn_len L
  refine verd_text (C := colsL L) ⟨r.c0, r.c32, turn_all r.all, fun T hT c hc => ?_⟩ (fun e => ?_) (by rw [hl]; exact g.r32) (by rw [turn_any]; exact g.any)
  · obtain ⟨U, hU, rfl⟩ := List.mem_map.1 hT
    obtain ⟨d, hd, rfl⟩ := List.mem_map.1 hc
    exact cellB_tw d (r.cell U (List.mem_reverse.1 hU) d hd)
  · rw [e] at hl
    have := g.rows
    simp at hl; omega

/-! ### Where a cell goes -/
def sig (R C a : Nat) : Nat := (R - 1 - a / C) * C + a % C
theorem sig_div {R C a : Nat} (hC : 0 < C) : sig R C a / C = R - 1 - a / C := by
  unfold sig
  rw [Nat.mul_comm, Nat.mul_add_div hC, Nat.div_eq_of_lt (Nat.mod_lt _ hC), Nat.add_zero]
theorem sig_mod {R C a : Nat} (hC : 0 < C) : sig R C a % C = a % C := by
  unfold sig
  rw [Nat.mul_comm, Nat.mul_add_mod, Nat.mod_mod]
theorem sig_lt {R C a : Nat} (hC : 0 < C) (ha : a < R * C) : sig R C a < R * C := by
  have hd : a / C < R := by rw [Nat.div_lt_iff_lt_mul hC]; exact ha
  rw [← Nat.div_lt_iff_lt_mul hC, sig_div hC]
  generalize a / C = x at *
  omega
theorem sig_sig {R C a : Nat} (hC : 0 < C) (ha : a < R * C) : sig R C (sig R C a) = a := by
  have hd : a / C < R := by rw [Nat.div_lt_iff_lt_mul hC]; exact ha
  have he : a / C * C + a % C = a := by rw [Nat.mul_comm]; exact Nat.div_add_mod a C
  have e : R - 1 - (R - 1 - a / C) = a / C := by
    clear he
    generalize a / C = x at *
    omega
  rw [sig, sig_div hC, sig_mod hC, e, he]
theorem turn_at {L : List (List UInt8)} {C : Nat} (h : ∀ T ∈ L, T.length = C) (hC : 0 < C) {a : Nat} (ha : a < L.length * C) : (turn L).flatten.getD (sig L.length C a) 0 = tw (L.flatten.getD a 0) := by
  have hd : a / C < L.length := by rw [Nat.div_lt_iff_lt_mul hC]; exact ha
  have hm := Nat.mod_lt a hC
  have hd1 : L.length - 1 - a / C < L.length := by
    clear hm
    generalize a / C = x at *
    omega
  have hd2 : L.length - 1 - (L.length - 1 - a / C) = a / C := by
    clear hm
    generalize a / C = x at *
    omega
  rw [flat_get (turn_all h) hC (by rw [turn_len]; exact sig_lt hC ha), flat_get h hC ha, sig_div hC, sig_mod hC, turn_get L hd1, hd2]
  have hg : L.getD (a / C) [] = L[a / C] := by simp [List.getD, hd]
  have hlen : (L.getD (a / C) []).length = C := by rw [hg]; exact h _ (List.getElem_mem hd)
  generalize L.getD (a / C) [] = T at *
  rw [List.getD, List.getD, List.getElem?_map, List.getElem?_eq_getElem (by omega)]; rfl
theorem wayOf_turn {R C a b : Nat} (hC : 0 < C) (ha : a < R * C) (hb : b < R * C) :
    (wayOf C a b = (60, 62) ∧ wayOf C (sig R C a) (sig R C b) = (60, 62)) ∨ (wayOf C a b = (94, 118) ∧ wayOf C (sig R C a) (sig R C b) = (118, 94)) ∨
    (wayOf C a b = (118, 94) ∧ wayOf C (sig R C a) (sig R C b) = (94, 118)) ∨ (wayOf C a b = (62, 60) ∧ wayOf C (sig R C a) (sig R C b) = (62, 60)) := by
  have hda : a / C < R := by rw [Nat.div_lt_iff_lt_mul hC]; exact ha
  have hdb : b / C < R := by rw [Nat.div_lt_iff_lt_mul hC]; exact hb
  have hea : a / C * C + a % C = a := by rw [Nat.mul_comm]; exact Nat.div_add_mod a C
  have heb : b / C * C + b % C = b := by rw [Nat.mul_comm]; exact Nat.div_add_mod b C
  have hsa : (R - 1 - a / C) * C + a % C = sig R C a := rfl
  have hsb : (R - 1 - b / C) * C + b % C = sig R C b := rfl
  unfold wayOf
  rw [sig_div hC, sig_div hC]
  generalize sig R C a = sa at *
  generalize sig R C b = sb at *
  generalize a / C = x at *
  generalize b / C = y at *
  generalize a % C = u at *
  generalize b % C = v at *
  rcases Nat.lt_trichotomy x y with q | q | q
  · right; right; left
    rw [if_neg (by omega), if_neg (by omega), if_pos q, if_neg (by omega), if_pos (by omega)]
    exact ⟨rfl, rfl⟩
  · subst q
    by_cases e : (b : Int) = (a : Int) - 1
    · left
      rw [if_pos ⟨e, rfl⟩, if_pos ⟨by omega, rfl⟩]
      exact ⟨rfl, rfl⟩
    · right; right; right
      rw [if_neg (fun q => e q.1), if_neg (by omega), if_neg (by omega), if_neg (by omega), if_neg (by omega), if_neg (by omega)]
      exact ⟨rfl, rfl⟩
  · right; left
    rw [if_neg (by omega), if_pos q, if_neg (by omega), if_neg (by omega), if_pos (by omega)]
    exact ⟨rfl, rfl⟩
theorem farN_turn {R C a b : Nat} (hC : 0 < C) (ha : a < R * C) (hb : b < R * C) : farN C (sig R C a) (sig R C b) = farN C a b := by
  have hda : a / C < R := by rw [Nat.div_lt_iff_lt_mul hC]; exact ha
  have hdb : b / C < R := by rw [Nat.div_lt_iff_lt_mul hC]; exact hb
  unfold farN
  rw [sig_div hC, sig_div hC, sig_mod hC, sig_mod hC]
  generalize a / C = x at *
  generalize b / C = y at *
  omega
theorem edgeN_turn {K K' : List UInt8} {R C a b : Nat} (hC : 0 < C) (ha : a < R * C) (hb : b < R * C) (ka : K'.getD (sig R C a) 0 = tw (K.getD a 0)) (kb : K'.getD (sig R C b) 0 = tw (K.getD b 0)) : edgeN K' C (sig R C a) (sig R C b) = edgeN K C a b := by
  unfold edgeN
  rw [ka, kb, farN_turn hC ha hb, tw_dec _ 35 35 (by omega), tw_dec _ 35 35 (by omega), tw_dec _ 46 46 (by omega)]
  rcases wayOf_turn hC ha hb with ⟨e1, e2⟩ | ⟨e1, e2⟩ | ⟨e1, e2⟩ | ⟨e1, e2⟩ <;> rw [e1, e2] <;> simp only
  · rw [tw_dec _ 60 60 (by omega), tw_dec _ 62 62 (by omega)]
  · rw [tw_dec _ 94 118 (by omega), tw_dec _ 118 94 (by omega)]
  · rw [tw_dec _ 118 94 (by omega), tw_dec _ 94 118 (by omega)]
  · rw [tw_dec _ 62 62 (by omega), tw_dec _ 60 60 (by omega)]
theorem sig_perm {R C : Nat} (hC : 0 < C) : ((List.range (R * C)).map (sig R C)).Perm (List.range (R * C)) := by
  refine (List.perm_ext_iff_of_nodup ?_ List.nodup_range).2 fun a => ?_
  · unfold List.Nodup
    rw [List.pairwise_map]
    refine List.Pairwise.imp_of_mem (fun {a b} ha hb hab e => hab ?_) (List.nodup_range (n := R * C))
    have := congrArg (sig R C) e
    rwa [sig_sig hC (List.mem_range.1 ha), sig_sig hC (List.mem_range.1 hb)] at this
  · rw [List.mem_map, List.mem_range]
    constructor
    · rintro ⟨b, hb, rfl⟩
      exact sig_lt hC (List.mem_range.1 hb)
    · intro ha
      exact ⟨sig R C a, List.mem_range.2 (sig_lt hC ha), sig_sig hC ha⟩
theorem outN_sum2 (L : List (List UInt8)) : ∀ n, outN L n = ((List.range n).map fun (k : Nat) => (nextL L k).length).sum
  | 0 => rfl
  | n + 1 => by rw [outN, outN_sum2 L n, List.range_succ, List.map_append, List.sum_append]; simp
theorem next_count {L : List (List UInt8)} (f : Fit L) {a : Nat} (ha : a < L.flatten.length) : (nextL L a).length = (List.range L.flatten.length).countP (edgeN L.flatten (colsL L) a) := by
  rw [nextL_eq f, if_pos (by omega), List.length_map, List.countP_eq_length_filter, Int.toNat_natCast]
theorem turn_out {L : List (List UInt8)} (f : Fit L) (hall : ∀ T ∈ L, T.length = colsL L) (f' : Fit (turn L)) : outN (turn L) (turn L).flatten.length = outN L L.flatten.length := by
  have hC := f.cols
  have hc := turn_cols hall f.rows
  have hl : (turn L).flatten.length = L.flatten.length := by rw [f'.len, f.len, turn_len]; exact congrArg _ hc
  have hn : L.flatten.length = L.length * colsL L := f.len
  have hn2 : L.flatten.length = L.length * (L.getD 0 []).length := f.len
  rw [outN_sum2, outN_sum2, hl]
  have p := sig_perm (R := L.length) hC
  rw [show L.length * (L.getD 0 []).length = L.flatten.length from hn.symm] at p
  rw [← ((p.map fun (k : Nat) => (nextL (turn L) k).length).sum_nat), List.map_map]
  congr 1
  refine List.map_congr_left fun a ha => ?_
  have ha := List.mem_range.1 ha
  have hsa : sig L.length (L.getD 0 []).length a < L.flatten.length := by rw [hn]; exact sig_lt hC (by omega)
  show (nextL (turn L) (sig L.length (L.getD 0 []).length a : Nat)).length = _
  rw [next_count f' (by omega), next_count f ha, hl, hc, ← p.countP_eq, List.countP_map]
  refine List.countP_congr fun b hb => ?_
  have hb := List.mem_range.1 hb
  show edgeN _ _ (sig _ _ a) (sig _ _ b) = true ↔ _
  rw [edgeN_turn hC (by omega) (by omega) (turn_at hall hC (by omega)) (turn_at hall hC (by omega))]
theorem turn_edge {L : List (List UInt8)} (f : Fit L) (hall : ∀ T ∈ L, T.length = colsL L) (f' : Fit (turn L)) {a b : Nat} (h : edgeL L a b = true) : edgeL (turn L) (sig L.length (colsL L) a : Nat) (sig L.length (colsL L) b : Nat) = true := by
  have hC := f.cols
  have hc := turn_cols hall f.rows
  have hl : (turn L).flatten.length = L.flatten.length := by rw [f'.len, f.len, turn_len]; exact congrArg _ hc
  have hn : L.flatten.length = L.length * colsL L := f.len
  have hn2 : L.flatten.length = L.length * (L.getD 0 []).length := f.len
  obtain ⟨hin, _⟩ := edgeL_facts h
  have ha : a < L.length * colsL L := by omega
  have hb : b < L.length * colsL L := by omega
  have sa : sig L.length (colsL L) a < L.length * colsL L := sig_lt hC ha
  have sb : sig L.length (colsL L) b < L.length * colsL L := sig_lt hC hb
  unfold edgeL at h ⊢
  rw [Bool.and_eq_true] at h ⊢
  refine ⟨decide_eq_true (by rw [hl]; omega), ?_⟩
  have h2 := h.2
  rw [Int.toNat_natCast, Int.toNat_natCast] at h2 ⊢
  have hc' : ((turn L).getD 0 []).length = colsL L := hc
  rw [hc', edgeN_turn hC ha hb (turn_at hall hC ha) (turn_at hall hC hb)]
  exact h2
theorem text_succ (L : List (List UInt8)) {j : Nat} (hj : j < L.length) : textL (L.take (j + 1)) = textL (L.take j) ++ L.getD j [] ++ [10] := by
  have hg : L.getD j [] = L[j] := by simp [List.getD, hj]
  unfold textL
  rw [List.take_add_one, List.getElem?_eq_getElem hj, hg, List.map_append, List.flatten_append]
  simp
theorem take_succ' (T : List UInt8) {c : Nat} (hc : c < T.length) : T.take (c + 1) = T.take c ++ [T.getD c 0] := by
  have hg : T.getD c 0 = T[c] := by simp [List.getD, hc]
  rw [List.take_add_one, List.getElem?_eq_getElem hc, hg]; rfl
theorem text_len {L : List (List UInt8)} {C : Nat} (h : ∀ T ∈ L, T.length = C) : (textL L).length = L.length * (C + 1) := by
  induction L with
  | nil => simp [textL]
  | cons T L ih =>
    have e : textL (T :: L) = T ++ [10] ++ textL L := by unfold textL; simp
    rw [e, List.length_append, List.length_append, h T (by simp), ih fun T q => h T (by simp [q]), List.length_singleton, List.length_cons, Nat.add_mul]; omega

end Go.Proofs.YtdimjemgganegaaDoor
