/- A text of this claim: walks, or plain law. -/
import Derived.Test.YtiigibhnjobcaaaC4
set_option linter.unusedSimpArgs false
set_option linter.unusedVariables false
namespace Go.Proofs.Ytiigibhnjobcaaa
open Go.AM
theorem b17_C5 : type_of% (And.intro (@AM.bdV_some) (And.intro (@bd_45) (And.intro (@AM.bin_add) (And.intro (@AM.bin_lss) (And.intro (AM.bsW_agg bs_31) (And.intro (AM.bsW_nil bs_31) (And.intro (@AM.fa_ptr) (And.intro (@fd_58_0) (And.intro (@fd_58_1) (And.intro (@AM.fillL_cons) (And.intro (@AM.fillL_nil) (And.intro (@AM.fillS_agg) (And.intro (@AM.fillS_bool) (And.intro (@AM.fillS_func) (And.intro (@AM.fillS_int) (And.intro (@AM.fillS_map) (And.intro (@AM.fillS_pointer) (And.intro (@AM.fillS_slice) (And.intro (@AM.fillS_string) (And.intro (@AM.iaA_ok) (And.intro (AM.ia_array ar_55) (And.intro (AM.ia_array ar_56) (And.intro (@AM.ldO_agg) (And.intro (@AM.ldO_one) (And.intro (@AM.ld_ptr) (And.intro (@lk_38) (And.intro (@lk_4) (And.intro (@AM.op_append) (And.intro (@AM.op_binOp) (And.intro (@AM.op_build) (And.intro (@AM.op_buildSlice) (And.intro (@AM.op_fieldAddr) (And.intro (@AM.op_indexAddr) (And.intro (@AM.op_load) (@AM.op_nilCheck))))))))))))))))))))))))))))))))))) := And.intro (@AM.bdV_some) (And.intro (@bd_45) (And.intro (@AM.bin_add) (And.intro (@AM.bin_lss) (And.intro (AM.bsW_agg bs_31) (And.intro (AM.bsW_nil bs_31) (And.intro (@AM.fa_ptr) (And.intro (@fd_58_0) (And.intro (@fd_58_1) (And.intro (@AM.fillL_cons) (And.intro (@AM.fillL_nil) (And.intro (@AM.fillS_agg) (And.intro (@AM.fillS_bool) (And.intro (@AM.fillS_func) (And.intro (@AM.fillS_int) (And.intro (@AM.fillS_map) (And.intro (@AM.fillS_pointer) (And.intro (@AM.fillS_slice) (And.intro (@AM.fillS_string) (And.intro (@AM.iaA_ok) (And.intro (AM.ia_array ar_55) (And.intro (AM.ia_array ar_56) (And.intro (@AM.ldO_agg) (And.intro (@AM.ldO_one) (And.intro (@AM.ld_ptr) (And.intro (@lk_38) (And.intro (@lk_4) (And.intro (@AM.op_append) (And.intro (@AM.op_binOp) (And.intro (@AM.op_build) (And.intro (@AM.op_buildSlice) (And.intro (@AM.op_fieldAddr) (And.intro (@AM.op_indexAddr) (And.intro (@AM.op_load) (@AM.op_nilCheck))))))))))))))))))))))))))))))))))


/-! ### The document's claims: two rows of cells -/
theorem one_ref : (List.replicate 1024 (Value.bool false) ++ List.replicate 1024 (Value.int .u32 0)).all (·.oneCell') = true := by kernel_rfl
def Rc (h : AHeap) (p : Nat) (f : Int → Option Int) : Prop := ∃ c, h.get p = some (.cells c 58 false) ∧ c.length = 2048 ∧ h.low ≤ p ∧ ∀ n : Nat, n < 1024 → c[n]? = some (.bool (f n).isSome) ∧ ∃ g, c[1024 + n]? = some (.int .u32 g) ∧ ∀ y, f n = some y → y = g
theorem Rc.fr {h h' : AHeap} {p : Nat} {f : Int → Option Int} {S : Nat → Prop} (c : Rc h p f) (fr : Fr S h h') (h1 : ¬ S p) : Rc h' p f := by
  obtain ⟨c, a, b, d, e⟩ := c
  exact ⟨c, fr.get a h1, b, by rw [fr.low]; exact d, e⟩
theorem Rc.fr0 {h h' : AHeap} {p : Nat} {f : Int → Option Int} (c : Rc h p f) (fr : Fr none' h h') : Rc h' p f := c.fr fr fun q => q
theorem rc_zero {h : AHeap} {p : Nat} (hg : h.get p = some (.cells (List.replicate 1024 (.bool false) ++ List.replicate 1024 (.int .u32 0)) 58 false)) (hl : h.low ≤ p) : Rc h p fun _ => none := by
  refine ⟨_, hg, by rw [List.length_append, List.length_replicate, List.length_replicate], hl, fun n hn => ⟨?_, 0, ?_, fun y q => by cases q⟩⟩
  · rw [List.getElem?_append_left (by rw [List.length_replicate]; exact hn), List.getElem?_replicate, if_pos hn]; rfl
  · rw [List.getElem?_append_right (by rw [List.length_replicate]; omega), List.length_replicate, List.getElem?_replicate, if_pos (by omega)]
/-- A cell that is claimed. -/
theorem Rc.claim {h : AHeap} {p : Nat} {f : Int → Option Int} {c : List Value} (b : c.length = 2048) (d : h.low ≤ p) (hlt : p < h.next) (e : ∀ n : Nat, n < 1024 → c[n]? = some (.bool (f n).isSome) ∧ ∃ g, c[1024 + n]? = some (.int .u32 g) ∧ ∀ y, f n = some y → y = g) (x : Nat) (hx : x < 1024) (g : Int) {f' : Int → Option Int} (hf : ∀ y : Int, f' y = if y = x then some g else f y) {h' : AHeap} (hg : h'.get p = some (.cells ((c.set x (.bool true)).set (1024 + x) (.int .u32 g)) 58 false)) (hlo : h'.low = h.low) : Rc h' p f' := by
  refine ⟨_, hg, by simpa using b, by omega, fun n hn => ?_⟩
  obtain ⟨e1, g1, e2, e3⟩ := e n hn
  simp only [List.getElem?_set, List.length_set]
  rw [hf]
  by_cases q : x = n
  · subst q
    rw [if_neg (by omega), if_pos rfl, if_pos (by omega), if_pos rfl, if_pos rfl, if_pos (by omega)]
    exact ⟨rfl, g, rfl, fun y hy => (Option.some.inj hy).symm⟩
  · rw [if_neg (by omega), if_neg q, if_neg (by omega), if_neg (by omega), if_neg (by omega)]
    exact ⟨e1, g1, e2, e3⟩

def allF (f : Int → Option Int) : Nat → List Cm
  | 0 => []
  | n + 1 => allF f n ++ (match f n with | some g => [((n : Int), g)] | none => [])
theorem allF_len (f : Int → Option Int) (n : Nat) : (allF f n).length ≤ n := by
  induction n with
  | zero => exact Nat.le_refl _
  | succ n ih => rw [allF, List.length_append]; cases f n <;> simp <;> omega
theorem allF_facts (f : Int → Option Int) (n : Nat) : Srt (allF f n) ∧ (∀ p ∈ allF f n, p.1 < n) ∧ ∀ x, getC (allF f n) x = if 0 ≤ x ∧ x < n then f x else none := by
  induction n with
  | zero => exact ⟨List.Pairwise.nil, fun p h => (by cases h), fun x => by rw [if_neg (by omega)]; rfl⟩
  | succ n ih =>
    obtain ⟨h1, h2, h3⟩ := ih
    rw [allF]
    refine ⟨?_, fun p hp => ?_, fun x => ?_⟩
    · unfold Srt
      rw [List.pairwise_append]
      refine ⟨h1, by cases f n <;> simp, fun a ha b hb => ?_⟩
      have := h2 a ha
      cases hf : f n with
      | none => rw [hf] at hb; cases hb
      | some g => rw [hf] at hb; obtain rfl := List.mem_singleton.1 hb; exact this
    · rcases List.mem_append.1 hp with hp | hp
      · have := h2 p hp; omega
      · cases hf : f n with
        | none => rw [hf] at hp; cases hp
        | some g => rw [hf] at hp; obtain rfl := List.mem_singleton.1 hp; simp only; omega
    · rw [getC_append, h3]
      by_cases e : x = n
      · subst e
        rw [if_neg (by omega), if_pos (by omega)]
        cases f n with
        | none => rfl
        | some g => simp [getC]
      · have hz : getC (match f n with | some g => [((n : Int), g)] | none => []) x = none := by
          cases f n with
          | none => rfl
          | some g => rw [getC_cons, if_neg (by simp only; omega)]; rfl
        rw [hz]
        by_cases q : 0 ≤ x ∧ x < n
        · rw [if_pos q, if_pos (by omega)]; simp
        · rw [if_neg q, if_neg (by omega)]; rfl
theorem allF_get {L : List Cm} (hs : Srt L) (hb : ∀ x, (getC L x).isSome = true → 0 ≤ x ∧ x < 1024) : allF (getC L) 1024 = L := by
  obtain ⟨h1, _, h3⟩ := allF_facts (getC L) 1024
  refine srt_ext h1 hs fun x => ?_
  rw [h3]
  by_cases q : 0 ≤ x ∧ x < 1024
  · rw [if_pos (by omega)]
  · rw [if_neg (by omega)]
    cases hg : getC L x with
    | none => rfl
    | some g => exact absurd (hb x (by rw [hg]; rfl)) q

theorem refAll_w {p : Nat} {f : Int → Option Int} {h : AHeap} (hc : Rc h p f) (hl : h.low ≤ h.next) {Q : VQ}
    (hq : ∀ v' h', Ow h' 45 2 v' (allF f 1024).length ((allF f 1024).flatMap encC) → Fr none' h h' → (∀ id, idOf v' id → h.next ≤ id) → Q v' h') : W 17 [pv p] h Q := by
  obtain ⟨c, hg, hcl, hlow, hcs⟩ := hc
  refine AM.enter hp (fn := Try.f17) (rs := [.tmp 2]) (nt := 27) (by kernel_rfl) Try.func17 rfl rfl rfl (by kernel_rfl) ?_
  (first | (simp (disch := first | omega | (simp only [AM.DB, List.length_set, List.length_map]; done) | (simp only [AM.DB, List.length_set, List.length_map]; omega)) only [AM.RB, Nat.reduceAdd, Nat.reduceMul, Nat.reduceEqDiff, reduceCtorEq, b17_C5]) | skip); (repeat' (first | (refine AM.drawW_fine hp (by kernel_rfl) (by kernel_rfl) ?_; simp (disch := first | omega | (simp only [AM.DB, List.length_set, List.length_map]; done) | (simp only [AM.DB, List.length_set, List.length_map]; omega)) only [AM.RB, Nat.reduceAdd, Nat.reduceMul, Nat.reduceEqDiff, reduceCtorEq, b17_C5]) | (refine AM.opW_tied (by kernel_rfl) ?_; simp (disch := first | omega | (simp only [AM.DB, List.length_set, List.length_map]; done) | (simp only [AM.DB, List.length_set, List.length_map]; omega)) only [AM.RB, Nat.reduceAdd, Nat.reduceMul, Nat.reduceEqDiff, reduceCtorEq, b17_C5]) | (refine AM.opW_untied (by kernel_rfl) ?_; simp (disch := first | omega | (simp only [AM.DB, List.length_set, List.length_map]; done) | (simp only [AM.DB, List.length_set, List.length_map]; omega)) only [AM.RB, Nat.reduceAdd, Nat.reduceMul, Nat.reduceEqDiff, reduceCtorEq, b17_C5]) | (refine AM.build_w ?_; simp (disch := first | omega | (simp only [AM.DB, List.length_set, List.length_map]; done) | (simp only [AM.DB, List.length_set, List.length_map]; omega)) only [AM.RB, Nat.reduceAdd, Nat.reduceMul, Nat.reduceEqDiff, reduceCtorEq, b17_C5])))
  refine AM.loop_w hp 27 (fun q : Nat × Value => [(0, pv p), (3, q.2), (4, .int .i64 q.1)])
    (fun q h' => q.1 ≤ 1024 ∧ Fr none' h h' ∧ Ow h' 45 2 q.2 (allF f q.1).length ((allF f q.1).flatMap encC) ∧ ∀ id, idOf q.2 id → h.next ≤ id) (fun q => 1024 - q.1) (by kernel_rfl) (0, .slice none 0 0) ?_ ?_ ?_
  · simp (disch := first | omega | (simp only [AM.DB, List.length_set, List.length_map]; done) | (simp only [AM.DB, List.length_set, List.length_map]; omega)) only [AM.RB, Nat.reduceAdd, Nat.reduceMul, Nat.reduceEqDiff, reduceCtorEq, b17_C5]
  · exact ⟨Nat.zero_le _, Fr.refl _ _, Ow.nil _ _ _, fun _ q => q.elim⟩
  rintro ⟨i, s⟩ h1 ρ ⟨hi, fr, ho, hid⟩
  simp only at hi ho hid ⊢
  have hg1 := fr.get hg (fun q => q)
  have hlt1 := AM.get_some_lt hg1
  simp (disch := first | omega | (simp only [AM.DB, List.length_set, List.length_map]; done) | (simp only [AM.DB, List.length_set, List.length_map]; omega)) only [AM.RB, Nat.reduceAdd, Nat.reduceMul, Nat.reduceEqDiff, reduceCtorEq, b17_C5]
  refine AM.condV_split (fun hlt => ?_) (fun hlt => ?_)
  · obtain ⟨e1, g, e2, e3⟩ := hcs i (by omega)
    have e1' : c[0 + i]? = some (.bool (f i).isSome) := by rw [Nat.zero_add]; exact e1
    (first | (simp (disch := first | omega | (simp only [AM.DB, List.length_set, List.length_map]; done) | (simp only [AM.DB, List.length_set, List.length_map]; omega)) only [AM.RB, Nat.reduceAdd, Nat.reduceMul, Nat.reduceEqDiff, reduceCtorEq, b17_C5, hg1, Int.toNat_natCast, e1, e1', e2]) | skip); (repeat' (first | (refine AM.drawW_fine hp (by kernel_rfl) (by kernel_rfl) ?_; simp (disch := first | omega | (simp only [AM.DB, List.length_set, List.length_map]; done) | (simp only [AM.DB, List.length_set, List.length_map]; omega)) only [AM.RB, Nat.reduceAdd, Nat.reduceMul, Nat.reduceEqDiff, reduceCtorEq, b17_C5, hg1, Int.toNat_natCast, e1, e1', e2]) | (refine AM.opW_tied (by kernel_rfl) ?_; simp (disch := first | omega | (simp only [AM.DB, List.length_set, List.length_map]; done) | (simp only [AM.DB, List.length_set, List.length_map]; omega)) only [AM.RB, Nat.reduceAdd, Nat.reduceMul, Nat.reduceEqDiff, reduceCtorEq, b17_C5, hg1, Int.toNat_natCast, e1, e1', e2]) | (refine AM.opW_untied (by kernel_rfl) ?_; simp (disch := first | omega | (simp only [AM.DB, List.length_set, List.length_map]; done) | (simp only [AM.DB, List.length_set, List.length_map]; omega)) only [AM.RB, Nat.reduceAdd, Nat.reduceMul, Nat.reduceEqDiff, reduceCtorEq, b17_C5, hg1, Int.toNat_natCast, e1, e1', e2]) | (refine AM.build_w ?_; simp (disch := first | omega | (simp only [AM.DB, List.length_set, List.length_map]; done) | (simp only [AM.DB, List.length_set, List.length_map]; omega)) only [AM.RB, Nat.reduceAdd, Nat.reduceMul, Nat.reduceEqDiff, reduceCtorEq, b17_C5, hg1, Int.toNat_natCast, e1, e1', e2])))
    refine AM.condV_bool (fun hb => ?_) (fun hb => ?_)
    · (first | (simp (disch := first | omega | (simp only [AM.DB, List.length_set, List.length_map]; done) | (simp only [AM.DB, List.length_set, List.length_map]; omega)) only [AM.RB, Nat.reduceAdd, Nat.reduceMul, Nat.reduceEqDiff, reduceCtorEq, b17_C5, hg1, Int.toNat_natCast, e1, e1', e2]) | skip); (repeat' (first | (refine AM.drawW_fine hp (by kernel_rfl) (by kernel_rfl) ?_; simp (disch := first | omega | (simp only [AM.DB, List.length_set, List.length_map]; done) | (simp only [AM.DB, List.length_set, List.length_map]; omega)) only [AM.RB, Nat.reduceAdd, Nat.reduceMul, Nat.reduceEqDiff, reduceCtorEq, b17_C5, hg1, Int.toNat_natCast, e1, e1', e2]) | (refine AM.opW_tied (by kernel_rfl) ?_; simp (disch := first | omega | (simp only [AM.DB, List.length_set, List.length_map]; done) | (simp only [AM.DB, List.length_set, List.length_map]; omega)) only [AM.RB, Nat.reduceAdd, Nat.reduceMul, Nat.reduceEqDiff, reduceCtorEq, b17_C5, hg1, Int.toNat_natCast, e1, e1', e2]) | (refine AM.opW_untied (by kernel_rfl) ?_; simp (disch := first | omega | (simp only [AM.DB, List.length_set, List.length_map]; done) | (simp only [AM.DB, List.length_set, List.length_map]; omega)) only [AM.RB, Nat.reduceAdd, Nat.reduceMul, Nat.reduceEqDiff, reduceCtorEq, b17_C5, hg1, Int.toNat_natCast, e1, e1', e2]) | (refine AM.build_w ?_; simp (disch := first | omega | (simp only [AM.DB, List.length_set, List.length_map]; done) | (simp only [AM.DB, List.length_set, List.length_map]; omega)) only [AM.RB, Nat.reduceAdd, Nat.reduceMul, Nat.reduceEqDiff, reduceCtorEq, b17_C5, hg1, Int.toNat_natCast, e1, e1', e2])))
      have efi : f i = some g := by
        cases hf : f i with
        | none => rw [hf] at hb; cases hb
        | some y => rw [e3 y hf]
      have eall : allF f (i + 1) = allF f i ++ [((i : Int), g)] := by rw [allF, efi]
      have hll := allF_len f i
      have fr2 : Fr none' h1 (h1.alloc (.cells (encC ((i : Int), g)) 45 false)) := (Fr.refl _ _).alloc _
      have hl1 := fr.hl hl
      refine AM.appends_w ap_31 ap_31 (ho.fr0 fr2) (AM.Rd.whole (n := 1) (c := encC ((i : Int), g)) (AM.get_alloc_self rfl) rfl) rfl (fr2.hl hl1) (AM.fits (by omega) (by omega)) (AM.fits' (by omega)) fun v' h3 ho3 fr3 hid3 => ?_
      have lt3 := fr3.lt (fr2.lt hlt1)
      (first | (simp (disch := first | omega | (simp only [AM.DB, List.length_set, List.length_map]; done) | (simp only [AM.DB, List.length_set, List.length_map]; omega)) only [AM.RB, Nat.reduceAdd, Nat.reduceMul, Nat.reduceEqDiff, reduceCtorEq, b17_C5, AM.wrap_i64]) | skip); (repeat' (first | (refine AM.drawW_fine hp (by kernel_rfl) (by kernel_rfl) ?_; simp (disch := first | omega | (simp only [AM.DB, List.length_set, List.length_map]; done) | (simp only [AM.DB, List.length_set, List.length_map]; omega)) only [AM.RB, Nat.reduceAdd, Nat.reduceMul, Nat.reduceEqDiff, reduceCtorEq, b17_C5, AM.wrap_i64]) | (refine AM.opW_tied (by kernel_rfl) ?_; simp (disch := first | omega | (simp only [AM.DB, List.length_set, List.length_map]; done) | (simp only [AM.DB, List.length_set, List.length_map]; omega)) only [AM.RB, Nat.reduceAdd, Nat.reduceMul, Nat.reduceEqDiff, reduceCtorEq, b17_C5, AM.wrap_i64]) | (refine AM.opW_untied (by kernel_rfl) ?_; simp (disch := first | omega | (simp only [AM.DB, List.length_set, List.length_map]; done) | (simp only [AM.DB, List.length_set, List.length_map]; omega)) only [AM.RB, Nat.reduceAdd, Nat.reduceMul, Nat.reduceEqDiff, reduceCtorEq, b17_C5, AM.wrap_i64]) | (refine AM.build_w ?_; simp (disch := first | omega | (simp only [AM.DB, List.length_set, List.length_map]; done) | (simp only [AM.DB, List.length_set, List.length_map]; omega)) only [AM.RB, Nat.reduceAdd, Nat.reduceMul, Nat.reduceEqDiff, reduceCtorEq, b17_C5, AM.wrap_i64])))
      have nx1 := fr.next
      refine ⟨(i + 1, v'), by simp only; omega, ⟨rfl, by simp⟩, by simp only; omega, (fr.trans fr2).then fr3 fun id q1 q2 => ?_, ?_, fun id q => ?_⟩
      · have := hid id q2; omega
      · rw [eall, List.flatMap_append, List.length_append]; exact ho3
      · rcases hid3 id q with q | q
        · exact hid id q
        · simp only [AM.nx_alloc] at q; omega
    · (first | (simp (disch := first | omega | (simp only [AM.DB, List.length_set, List.length_map]; done) | (simp only [AM.DB, List.length_set, List.length_map]; omega)) only [AM.RB, Nat.reduceAdd, Nat.reduceMul, Nat.reduceEqDiff, reduceCtorEq, b17_C5, AM.wrap_i64]) | skip); (repeat' (first | (refine AM.drawW_fine hp (by kernel_rfl) (by kernel_rfl) ?_; simp (disch := first | omega | (simp only [AM.DB, List.length_set, List.length_map]; done) | (simp only [AM.DB, List.length_set, List.length_map]; omega)) only [AM.RB, Nat.reduceAdd, Nat.reduceMul, Nat.reduceEqDiff, reduceCtorEq, b17_C5, AM.wrap_i64]) | (refine AM.opW_tied (by kernel_rfl) ?_; simp (disch := first | omega | (simp only [AM.DB, List.length_set, List.length_map]; done) | (simp only [AM.DB, List.length_set, List.length_map]; omega)) only [AM.RB, Nat.reduceAdd, Nat.reduceMul, Nat.reduceEqDiff, reduceCtorEq, b17_C5, AM.wrap_i64]) | (refine AM.opW_untied (by kernel_rfl) ?_; simp (disch := first | omega | (simp only [AM.DB, List.length_set, List.length_map]; done) | (simp only [AM.DB, List.length_set, List.length_map]; omega)) only [AM.RB, Nat.reduceAdd, Nat.reduceMul, Nat.reduceEqDiff, reduceCtorEq, b17_C5, AM.wrap_i64]) | (refine AM.build_w ?_; simp (disch := first | omega | (simp only [AM.DB, List.length_set, List.length_map]; done) | (simp only [AM.DB, List.length_set, List.length_map]; omega)) only [AM.RB, Nat.reduceAdd, Nat.reduceMul, Nat.reduceEqDiff, reduceCtorEq, b17_C5, AM.wrap_i64])))
      have efi : f i = none := by
        cases hf : f i with
        | none => rfl
        | some y => rw [hf] at hb; cases hb
      have eall : allF f (i + 1) = allF f i := by rw [allF, efi]; simp
      exact ⟨(i + 1, s), by simp only; omega, ⟨rfl, by simp⟩, by simp only; omega, fr, by rw [eall]; exact ho, hid⟩
  · obtain rfl : i = 1024 := by omega
    (first | (simp (disch := first | omega | (simp only [AM.DB, List.length_set, List.length_map]; done) | (simp only [AM.DB, List.length_set, List.length_map]; omega)) only [AM.RB, Nat.reduceAdd, Nat.reduceMul, Nat.reduceEqDiff, reduceCtorEq, b17_C5]) | skip); (repeat' (first | (refine AM.drawW_fine hp (by kernel_rfl) (by kernel_rfl) ?_; simp (disch := first | omega | (simp only [AM.DB, List.length_set, List.length_map]; done) | (simp only [AM.DB, List.length_set, List.length_map]; omega)) only [AM.RB, Nat.reduceAdd, Nat.reduceMul, Nat.reduceEqDiff, reduceCtorEq, b17_C5]) | (refine AM.opW_tied (by kernel_rfl) ?_; simp (disch := first | omega | (simp only [AM.DB, List.length_set, List.length_map]; done) | (simp only [AM.DB, List.length_set, List.length_map]; omega)) only [AM.RB, Nat.reduceAdd, Nat.reduceMul, Nat.reduceEqDiff, reduceCtorEq, b17_C5]) | (refine AM.opW_untied (by kernel_rfl) ?_; simp (disch := first | omega | (simp only [AM.DB, List.length_set, List.length_map]; done) | (simp only [AM.DB, List.length_set, List.length_map]; omega)) only [AM.RB, Nat.reduceAdd, Nat.reduceMul, Nat.reduceEqDiff, reduceCtorEq, b17_C5]) | (refine AM.build_w ?_; simp (disch := first | omega | (simp only [AM.DB, List.length_set, List.length_map]; done) | (simp only [AM.DB, List.length_set, List.length_map]; omega)) only [AM.RB, Nat.reduceAdd, Nat.reduceMul, Nat.reduceEqDiff, reduceCtorEq, b17_C5])))
    exact hq _ _ ho fr hid

end Go.Proofs.Ytiigibhnjobcaaa
