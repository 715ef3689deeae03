/- Walks of this claim's functions, and plain laws. -/
import Derived.Test.YtnkbdbopiancmaaWb
import Derived.Test.YtnkbdbopiancmaaAMBfs3
set_option linter.unusedSimpArgs false
set_option linter.unusedVariables false
namespace Go.Proofs.Ytnkbdbopiancmaa
open Go.AM

/-! ### Strong parts, plain -/
theorem markL_get (there : List Int) (part : Int) : ∀ (xs : List (Int × Int)) (out : List Int) (b : Nat), b < out.length → (markL there part xs out).getD b 0 = if (∃ q ∈ xs, q.1.toNat = b) ∧ 0 ≤ there.getD b 0 then part else out.getD b 0
  | [], out, b, _ => by
    rw [if_neg (by rintro ⟨⟨q, hq, _⟩, _⟩; cases hq)]; rfl
  | q :: xs, out, b, hb => by
    show (markL there part xs (mark1 there part out q)).getD b 0 = _
    rw [markL_get there part xs _ b (by rw [mark1_len]; exact hb)]
    by_cases h1 : (∃ q ∈ xs, q.1.toNat = b) ∧ 0 ≤ there.getD b 0
    · rw [if_pos h1, if_pos ⟨(by obtain ⟨⟨z, hz, e⟩, _⟩ := h1; exact ⟨z, List.mem_cons_of_mem _ hz, e⟩), h1.2⟩]
    · rw [if_neg h1]
      unfold mark1
      by_cases h2 : 0 ≤ there.getD q.1.toNat 0
      · rw [if_pos h2, getD_set _ _ _ _ hb]
        by_cases h3 : q.1.toNat = b
        · rw [if_pos h3, if_pos ⟨⟨q, List.mem_cons_self .., h3⟩, h3 ▸ h2⟩]
        · rw [if_neg h3, if_neg]
          rintro ⟨⟨z, hz, e⟩, h4⟩
          rcases List.mem_cons.1 hz with rfl | hz
          · exact h3 e
          · exact h1 ⟨⟨z, hz, e⟩, h4⟩
      · rw [if_neg h2, if_neg]
        rintro ⟨⟨z, hz, e⟩, h4⟩
        rcases List.mem_cons.1 hz with rfl | hz
        · exact h2 (e ▸ h4)
        · exact h1 ⟨⟨z, hz, e⟩, h4⟩
/-- Each reaches the other one. -/
def Mut (n : Nat) (E : Nat → Nat → Bool) (a b : Int) : Prop := Rc (outsI n E) a b ∧ Rc (innI n E) a b
theorem in_out {n : Nat} {E : Nat → Nat → Bool} {a b : Int} : Rc (innI n E) a b ↔ Rc (outsI n E) b a :=
  ⟨fun h => (Rc.rev (fun _ => True) trivial (fun b c _ hc => ⟨by rw [mem_innI] at hc; rw [mem_outsI]; exact hc, trivial⟩) h).1,
    fun h => (Rc.rev (fun _ => True) trivial (fun b c _ hc => ⟨by rw [mem_outsI] at hc; rw [mem_innI]; exact hc, trivial⟩) h).1⟩
theorem Mut.refl (n : Nat) (E : Nat → Nat → Bool) (a : Int) : Mut n E a a := ⟨Rc.refl _ _, Rc.refl _ _⟩
theorem Mut.symm {n : Nat} {E : Nat → Nat → Bool} {a b : Int} (h : Mut n E a b) : Mut n E b a := ⟨in_out.1 h.2, in_out.2 h.1⟩
theorem Mut.trans {n : Nat} {E : Nat → Nat → Bool} {a b c : Int} (h : Mut n E a b) (g : Mut n E b c) : Mut n E a c := ⟨h.1.trans g.1, h.2.trans g.2⟩
theorem dI_reach {n : Nat} {E : Nat → Nat → Bool} {a b : Nat} (ha : a < n) (hb : b < n) : 0 ≤ (dI n E a).getD b 0 ↔ Rc (outsI n E) a b := by
  have := (dI_is (E := E) (show 0 ≤ (a : Int) by omega) (show (a : Int) < n by omega)).reach (b := b) (by omega)
  rwa [Int.toNat_natCast] at this
theorem strong_step {n : Nat} (E : Nat → Nat → Bool) {a : Nat} (ha : a < n) : ((0 ≤ (strongS n E a).1.getD a 0) ∧ strongS n E (a + 1) = strongS n E a) ∨ ((strongS n E a).1.getD a 0 < 0 ∧ (strongS n E (a + 1)).2 = (strongS n E a).2 + 1 ∧
    ∀ b : Nat, b < n → (Mut n E a b ∧ (strongS n E (a + 1)).1.getD b 0 = (strongS n E a).2) ∨ (¬ Mut n E a b ∧ (strongS n E (a + 1)).1.getD b 0 = (strongS n E a).1.getD b 0)) := by
  by_cases h : 0 ≤ (strongS n E a).1.getD a 0
  · exact .inl ⟨h, by rw [strongS, if_pos h]⟩
  · refine .inr ⟨by omega, by rw [strongS, if_neg h], fun b hb => ?_⟩
    rw [strongS, if_neg h]
    simp only
    rw [markL_get _ _ _ _ b (by rw [(strongS_len n E a).1]; exact hb)]
    have k : ((∃ q ∈ bfs (innI n E) n a, q.1.toNat = b) ∧ 0 ≤ (dI n E a).getD b 0) ↔ Mut n E a b := by
      rw [dI_reach ha hb]
      have bk := bfs_keys (N := innI n E) (n := n) innI_dom (r := a) (by omega) (by omega) b
      have bs := (bfs_spec (N := innI n E) (n := n) innI_dom (r := a) (by omega) (by omega)).2.1
      constructor
      · rintro ⟨⟨q, hq, e⟩, g⟩
        refine ⟨g, bk.1 (List.mem_map.2 ⟨q, hq, ?_⟩)⟩
        have := (bs q hq).1
        omega
      · rintro ⟨g, g2⟩
        obtain ⟨q, hq, e⟩ := List.mem_map.1 (bk.2 g2)
        exact ⟨⟨q, hq, by rw [e]; exact Int.toNat_natCast b⟩, g⟩
    by_cases m : Mut n E a b
    · exact .inl ⟨m, by rw [if_pos (k.2 m)]⟩
    · exact .inr ⟨m, by rw [if_neg (fun q => m (k.1 q))]⟩
theorem strong_back (n : Nat) (E : Nat → Nat → Bool) : ∀ a, a ≤ n → strongS n (fun x y => E y x) a = strongS n E a
  | 0, _ => rfl
  | a + 1, h => by
    have ih := strong_back n E a (by omega)
    have mb : ∀ b, Mut n (fun x y => E y x) a b ↔ Mut n E a b := fun b => ⟨fun m => ⟨m.2, m.1⟩, fun m => ⟨m.2, m.1⟩⟩
    have l1 := (strongS_len n E (a + 1)).1
    have l2 := (strongS_len n (fun x y => E y x) (a + 1)).1
    rcases strong_step E (show a < n by omega) with ⟨p1, p2⟩ | ⟨p1, p2, p3⟩ <;> rcases strong_step (fun x y => E y x) (show a < n by omega) with ⟨q1, q2⟩ | ⟨q1, q2, q3⟩
    · rw [p2, q2, ih]
    · rw [ih] at q1; omega
    · rw [ih] at q1; omega
    · rw [ih] at q2 q3
      refine Prod.ext (List.ext_getElem (by rw [l1, l2]) fun b h1 h2 => ?_) (by rw [p2, q2])
      have hb : b < n := by rw [← l1]; exact h2
      have e1 : (strongS n (fun x y => E y x) (a + 1)).1.getD b 0 = (strongS n (fun x y => E y x) (a + 1)).1[b] := by simp [List.getD, h1]
      have e2 : (strongS n E (a + 1)).1.getD b 0 = (strongS n E (a + 1)).1[b] := by simp [List.getD, h2]
      rw [← e1, ← e2]
      rcases p3 b hb with ⟨m, e⟩ | ⟨m, e⟩ <;> rcases q3 b hb with ⟨m', e'⟩ | ⟨m', e'⟩
      · rw [e, e']
      · exact absurd ((mb b).2 m) m'
      · exact absurd ((mb b).1 m') m
      · rw [e, e']
structure StrongI (n : Nat) (E : Nat → Nat → Bool) (m : Nat) : Prop where
  i1 : ∀ b : Nat, b < n → (0 ≤ (strongS n E m).1.getD b 0 ↔ ∃ c : Nat, c < m ∧ Mut n E c b)
  i2 : ∀ b : Nat, b < n → (strongS n E m).1.getD b 0 < (strongS n E m).2
  i3 : ∀ b c : Nat, b < n → c < n → 0 ≤ (strongS n E m).1.getD b 0 → ((strongS n E m).1.getD b 0 = (strongS n E m).1.getD c 0 ↔ Mut n E b c)
theorem strongI (n : Nat) (E : Nat → Nat → Bool) : ∀ m, m ≤ n → StrongI n E m
  | 0, _ => by
    have e : ∀ b : Nat, b < n → (strongS n E 0).1.getD b 0 = -1 := fun b hb => by simp [strongS, List.getD, hb]
    exact ⟨fun b hb => by rw [e b hb]; exact ⟨fun h => by omega, fun ⟨c, h, _⟩ => by omega⟩, fun b hb => by rw [e b hb]; simp [strongS], fun b c hb hc h => by rw [e b hb] at h; omega⟩
  | m + 1, h => by
    obtain ⟨i1, i2, i3⟩ := strongI n E m (by omega)
    have pp := (strongS_len n E m).2.1
    rcases strong_step E (show m < n by omega) with ⟨p1, p2⟩ | ⟨p1, p2, p3⟩
    · rw [show StrongI n E (m + 1) ↔ StrongI n E (m + 1) from Iff.rfl]
      refine ⟨fun b hb => ?_, fun b hb => by rw [p2]; exact i2 b hb, fun b c hb hc => by rw [p2]; exact i3 b c hb hc⟩
      rw [p2, i1 b hb]
      constructor
      · rintro ⟨c, hc, q⟩; exact ⟨c, by omega, q⟩
      · rintro ⟨c, hc, q⟩
        by_cases e : c = m
        · subst e
          obtain ⟨d, hd, q'⟩ := (i1 c (by omega)).1 p1
          exact ⟨d, hd, q'.trans q⟩
        · exact ⟨c, by omega, q⟩
    · refine ⟨fun b hb => ?_, fun b hb => ?_, fun b c hb hc hz => ?_⟩
      · rcases p3 b hb with ⟨q, e⟩ | ⟨q, e⟩
        · rw [e]; exact ⟨fun _ => ⟨m, by omega, q⟩, fun _ => pp⟩
        · rw [e, i1 b hb]
          constructor
          · rintro ⟨c, hc, t⟩; exact ⟨c, by omega, t⟩
          · rintro ⟨c, hc, t⟩
            by_cases e : c = m
            · subst e; exact absurd t q
            · exact ⟨c, by omega, t⟩
      · have := i2 b hb
        rcases p3 b hb with ⟨q, e⟩ | ⟨q, e⟩ <;> omega
      · have b2 := i2 b hb
        have c2 := i2 c hc
        rcases p3 b hb with ⟨q, e⟩ | ⟨q, e⟩ <;> rcases p3 c hc with ⟨q', e'⟩ | ⟨q', e'⟩
        · rw [e, e']; exact ⟨fun _ => q.symm.trans q', fun _ => rfl⟩
        · rw [e, e']; exact ⟨fun t => by omega, fun t => absurd (q.trans t) q'⟩
        · rw [e, e']; exact ⟨fun t => by omega, fun t => absurd (q'.trans t.symm) q⟩
        · rw [e] at hz
          rw [e, e']; exact i3 b c hb hc hz
theorem strong_mut {n : Nat} {E : Nat → Nat → Bool} {a b : Nat} (ha : a < n) (hb : b < n) : (strongL n E).getD a 0 = (strongL n E).getD b 0 ↔ Rc (outsI n E) a b ∧ Rc (outsI n E) b a := by
  obtain ⟨i1, _, i3⟩ := strongI n E n (Nat.le_refl _)
  rw [i3 a b ha hb ((i1 a ha).2 ⟨a, ha, Mut.refl _ _ _⟩)]
  exact ⟨fun m => ⟨m.1, in_out.1 m.2⟩, fun m => ⟨m.1, in_out.2 m.2⟩⟩

/-! ### Joints, plain -/
theorem mem_besL {n : Nat} {E : Nat → Nat → Bool} {a w x : Int} : x ∈ besL n E a w ↔ (eI n E a x = true ∨ eI n E x a = true) ∧ x ≠ w := by
  unfold besL
  rw [List.mem_filter, List.mem_append, mem_outsI, mem_innI]
  simp
theorem bes_sym {n : Nat} {E : Nat → Nat → Bool} {w x y : Int} (hx : x ≠ w) (h : Rc (fun z => besL n E z w) x y) : Rc (fun z => besL n E z w) y x ∧ y ≠ w :=
  Rc.rev (fun z => z ≠ w) hx (fun b c hb hc => by
    rw [mem_besL] at hc
    exact ⟨by rw [mem_besL]; exact ⟨hc.1.symm, hb⟩, hc.2⟩) h
theorem jointP_iff {n : Nat} {E : Nat → Nat → Bool} {a : Int} (ha : 0 ≤ a ∧ a < n) : jointP n E a = true ↔ ∃ x y, x ∈ besL n E a a ∧ y ∈ besL n E a a ∧ ¬ Rc (fun z => besL n E z a) x y := by
  unfold jointP
  have dom := fun x (hx : x ∈ besL n E a a) => besL_dom a ha x hx
  have ne := fun x (hx : x ∈ besL n E a a) => (mem_besL.1 hx).2
  generalize hL : besL n E a a = L at *
  cases L with
  | nil => exact ⟨fun h => (by cases h), fun ⟨x, _, hx, _⟩ => (by cases hx)⟩
  | cons b l =>
    have hb : b ∈ b :: l := List.mem_cons_self ..
    have key := fun c => bfs_keys (N := fun x => besL n E x a) (n := n) besL_dom (dom b hb).1 (dom b hb).2 c
    simp only [List.any_eq_true, Bool.not_eq_true', decide_eq_false_iff_not]
    constructor
    · rintro ⟨c, hc, q⟩
      exact ⟨b, c, hb, hc, fun r => q ((key c).2 r)⟩
    · rintro ⟨x, y, hx, hy, q⟩
      by_cases h : ∃ c, c ∈ b :: l ∧ ¬ Rc (fun z => besL n E z a) b c
      · obtain ⟨c, hc, q⟩ := h
        exact ⟨c, hc, fun r => q ((key c).1 r)⟩
      · exfalso
        have al : ∀ c, c ∈ b :: l → Rc (fun z => besL n E z a) b c := fun c hc => Classical.byContradiction fun q => h ⟨c, hc, q⟩
        exact q ((bes_sym (ne b hb) (al x hx)).1.trans (al y hy))
theorem eI_back {n : Nat} {E : Nat → Nat → Bool} {a b : Int} : eI n (fun x y => E y x) a b = eI n E b a := by
  unfold eI
  rw [show decide ((0 ≤ a ∧ a < n) ∧ 0 ≤ b ∧ b < n) = decide ((0 ≤ b ∧ b < n) ∧ 0 ≤ a ∧ a < n) from by simp only [and_comm]]
theorem mem_bes_back {n : Nat} {E : Nat → Nat → Bool} {a w x : Int} : x ∈ besL n (fun x y => E y x) a w ↔ x ∈ besL n E a w := by
  rw [mem_besL, mem_besL, eI_back (E := E) (a := a) (b := x), eI_back (E := E) (a := x) (b := a), or_comm (a := eI n E x a = true)]
theorem joint_back {n : Nat} {E : Nat → Nat → Bool} {a : Int} (ha : 0 ≤ a ∧ a < n) : jointP n (fun x y => E y x) a = jointP n E a := by
  rw [Bool.eq_iff_iff, jointP_iff ha, jointP_iff ha]
  have rc : ∀ x y, Rc (fun z => besL n (fun x y => E y x) z a) x y ↔ Rc (fun z => besL n E z a) x y := fun x y =>
    ⟨fun h => (Rc.mono (fun _ => True) trivial (fun b c _ hc => ⟨mem_bes_back.1 hc, trivial⟩) h).1, fun h => (Rc.mono (fun _ => True) trivial (fun b c _ hc => ⟨mem_bes_back.2 hc, trivial⟩) h).1⟩
  constructor
  · rintro ⟨x, y, hx, hy, q⟩
    exact ⟨x, y, mem_bes_back.1 hx, mem_bes_back.1 hy, fun r => q ((rc x y).2 r)⟩
  · rintro ⟨x, y, hx, hy, q⟩
    exact ⟨x, y, mem_bes_back.2 hx, mem_bes_back.2 hy, fun r => q ((rc x y).1 r)⟩
theorem joints_back (n : Nat) (E : Nat → Nat → Bool) : jointsL n (fun x y => E y x) n = jointsL n E n := by
  unfold jointsL
  refine List.filter_congr fun a ha => ?_
  obtain ⟨k, hk, rfl⟩ := List.mem_map.1 ha
  have := List.mem_range.1 hk
  exact joint_back (by simp only [Int.ofNat_eq_natCast]; omega)
end Go.Proofs.Ytnkbdbopiancmaa

namespace Go.Proofs.Ytnkbdbopiancmaa
open Go.AM
set_option maxRecDepth 8000
theorem b4_GR18 : type_of% (And.intro (@Option.isNone_none.{0}) (And.intro (@Option.isNone_some.{0}) (And.intro (@AM.bin_add) (And.intro (AM.bin_beq ul_4) (And.intro (@AM.bin_eql) (And.intro (@AM.bin_geq) (And.intro (@AM.bin_gtr) (And.intro (AM.bin_pnil ul_24) (And.intro (@AM.bin_rem) (And.intro (@AM.boxK_agg) (And.intro (@AM.boxK_bool) (And.intro (@AM.boxK_func) (And.intro (@AM.boxK_int) (And.intro (@AM.boxK_map) (And.intro (@AM.boxK_pointer) (And.intro (@AM.boxK_slice) (And.intro (@AM.boxK_string) (And.intro (@AM.cvW_int) (And.intro (AM.cv_int ul_5 ul_3) (And.intro (@AM.iaA_ok) (And.intro (@AM.iaO_ok) (And.intro (AM.ia_array ar_32) (And.intro (AM.ia_slice el_26) (And.intro (@AM.ldO_agg) (And.intro (@AM.ldO_one) (And.intro (@AM.ld_ptr) (And.intro (AM.len_slice ul_22) (And.intro (@lk_3) (And.intro (@lk_5) (And.intro (@AM.op_binOp) (And.intro (@AM.op_box) (And.intro (@AM.op_call) (And.intro (@AM.op_convert) (And.intro (@AM.op_indexAddr) (And.intro (@AM.op_len) (And.intro (@AM.op_load) (And.intro (@AM.op_unOp) (And.intro (@AM.un_neg) (@AM.un_not))))))))))))))))))))))))))))))))))))))) := And.intro (@Option.isNone_none.{0}) (And.intro (@Option.isNone_some.{0}) (And.intro (@AM.bin_add) (And.intro (AM.bin_beq ul_4) (And.intro (@AM.bin_eql) (And.intro (@AM.bin_geq) (And.intro (@AM.bin_gtr) (And.intro (AM.bin_pnil ul_24) (And.intro (@AM.bin_rem) (And.intro (@AM.boxK_agg) (And.intro (@AM.boxK_bool) (And.intro (@AM.boxK_func) (And.intro (@AM.boxK_int) (And.intro (@AM.boxK_map) (And.intro (@AM.boxK_pointer) (And.intro (@AM.boxK_slice) (And.intro (@AM.boxK_string) (And.intro (@AM.cvW_int) (And.intro (AM.cv_int ul_5 ul_3) (And.intro (@AM.iaA_ok) (And.intro (@AM.iaO_ok) (And.intro (AM.ia_array ar_32) (And.intro (AM.ia_slice el_26) (And.intro (@AM.ldO_agg) (And.intro (@AM.ldO_one) (And.intro (@AM.ld_ptr) (And.intro (AM.len_slice ul_22) (And.intro (@lk_3) (And.intro (@lk_5) (And.intro (@AM.op_binOp) (And.intro (@AM.op_box) (And.intro (@AM.op_call) (And.intro (@AM.op_convert) (And.intro (@AM.op_indexAddr) (And.intro (@AM.op_len) (And.intro (@AM.op_load) (And.intro (@AM.op_unOp) (And.intro (@AM.un_neg) (@AM.un_not))))))))))))))))))))))))))))))))))))))


set_option maxHeartbeats 8000000 in
theorem back_w {h : AHeap} {n0 u1 u2 : Int} {s : Value} {M : List (Int × Int)} (hM : Rd h 42 2 s M.length (M.flatMap encP)) (hm : (M.length : Int) ≤ 9223372036854775807) (hn : 0 ≤ n0 ∧ n0 < 256) (hu1 : 0 ≤ u1 ∧ u1 < 256) (hu2 : 0 ≤ u2 ∧ u2 < 256) (hl : h.low ≤ h.next) :
    W 4 [.int .u8 n0, s, .agg #[.int .u8 u1, .int .u8 u2]] h fun v _ => v = .bool true := by
  obtain ⟨ma, mc, rfl⟩ := hM.form
  refine AM.enter hp (fn := Try.f4) (rs := [.tmp 6]) (nt := 118) (by kernel_rfl) Try.func4 rfl rfl rfl (by kernel_rfl) ?_
  (repeat' (first | (simp (maxSteps := 1000000) (disch := first | omega | (simp only [AM.DB, List.length_set, List.length_map]; first | done | omega)) only [AM.RB, Nat.reduceAdd, Nat.reduceMul, Nat.reduceEqDiff, reduceCtorEq, b4_GR18]) | refine AM.drawW_fine hp (by kernel_rfl) (by kernel_rfl) (by kernel_rfl) ?_ | refine AM.opW_tied (by kernel_rfl) ?_ | refine AM.opW_untied (by kernel_rfl) ?_))
  generalize hE_ : AHeap.alloc h _ = h1; obtain ⟨g1, fr1, n1, l1⟩ := AM.new_get hE_; clear hE_
  have hl1 := fr1.hl hl
  refine alive_w hl1 fun h2 fr2 => ?_
  have hl2 := fr2.hl hl1
  have gx2 := g1.fr0 fr2
  (repeat' (first | (simp (maxSteps := 1000000) (disch := first | omega | (simp only [AM.DB, List.length_set, List.length_map]; first | done | omega)) only [AM.RB, Nat.reduceAdd, Nat.reduceMul, Nat.reduceEqDiff, reduceCtorEq, b4_GR18]) | refine AM.drawW_fine hp (by kernel_rfl) (by kernel_rfl) (by kernel_rfl) ?_ | refine AM.opW_tied (by kernel_rfl) ?_ | refine AM.opW_untied (by kernel_rfl) ?_))
  have ek := kN_eq hn
  obtain ⟨k1, k40⟩ := kN_le n0
  generalize kN n0 = k at *
  rw [ek]
  refine built_w (hM.fr0 (fr1.trans fr2)) hm (by omega) hl2 fun h3 p S x3 nl fr3 hS3 => ?_
  have hl3 := fr3.hl hl2
  have gx3 := gx2.fr0 fr3
  generalize addsE k noE M = E at *
  by_cases h300 : 300 < (M.length : Int)
  · have d0 : decide (300 < (M.length : Int)) = true := decide_eq_true h300
    (repeat' (first | (simp (maxSteps := 1000000) (disch := first | omega | (simp only [AM.DB, List.length_set, List.length_map]; first | done | omega)) only [AM.RB, Nat.reduceAdd, Nat.reduceMul, Nat.reduceEqDiff, reduceCtorEq, b4_GR18, d0]) | refine AM.drawW_fine hp (by kernel_rfl) (by kernel_rfl) (by kernel_rfl) ?_ | refine AM.opW_tied (by kernel_rfl) ?_ | refine AM.opW_untied (by kernel_rfl) ?_))
  have d0 : decide (300 < (M.length : Int)) = false := decide_eq_false h300
  have ea := aN_eq (k := k) hu1
  have ak := aN_lt (a := u1) k1
  have eb := aN_eq (k := k) hu2
  have bk := aN_lt (a := u2) k1
  generalize aN u1 k = a at *
  generalize aN u2 k = b at *
  (repeat' (first | (simp (maxSteps := 1000000) (disch := first | omega | (simp only [AM.DB, List.length_set, List.length_map]; first | done | omega)) only [AM.RB, Nat.reduceAdd, Nat.reduceMul, Nat.reduceEqDiff, reduceCtorEq, b4_GR18, d0, ek, ea, eb, gx3, Int.toNat_zero, Int.toNat_one, List.getElem?_cons_zero, List.getElem?_cons_succ]) | refine AM.drawW_fine hp (by kernel_rfl) (by kernel_rfl) (by kernel_rfl) ?_ | refine AM.opW_tied (by kernel_rfl) ?_ | refine AM.opW_untied (by kernel_rfl) ?_))
  refine grBack_w x3 nl (by omega) hl3 fun h4 pb S4 x4 fr4 hS4 => ?_
  have hl4 := fr4.hl hl3
  (repeat' (first | (simp (maxSteps := 1000000) (disch := first | omega | (simp only [AM.DB, List.length_set, List.length_map]; first | done | omega)) only [AM.RB, Nat.reduceAdd, Nat.reduceMul, Nat.reduceEqDiff, reduceCtorEq, b4_GR18]) | refine AM.drawW_fine hp (by kernel_rfl) (by kernel_rfl) (by kernel_rfl) ?_ | refine AM.opW_tied (by kernel_rfl) ?_ | refine AM.opW_untied (by kernel_rfl) ?_))
  refine grStrong_w (x3.fr0 fr4) (by omega) hl4 fun vS h5 oS fr5 hidS => ?_
  have hl5 := fr5.hl hl4
  obtain ⟨sa, sc, rfl⟩ := oS.form
  (repeat' (first | (simp (maxSteps := 1000000) (disch := first | omega | (simp only [AM.DB, List.length_set, List.length_map]; first | done | omega)) only [AM.RB, Nat.reduceAdd, Nat.reduceMul, Nat.reduceEqDiff, reduceCtorEq, b4_GR18]) | refine AM.drawW_fine hp (by kernel_rfl) (by kernel_rfl) (by kernel_rfl) ?_ | refine AM.opW_tied (by kernel_rfl) ?_ | refine AM.opW_untied (by kernel_rfl) ?_))
  refine grDist_w (x3.fr0 (fr4.trans fr5)) (by omega) hl5 a fun v6 h6 o6 fr6 hid6 => ?_
  have hl6 := fr6.hl hl5
  have l6 := (dI_is (E := E) (show 0 ≤ (a : Int) by omega) (show (a : Int) < k by omega)).len
  rw [l6] at o6
  obtain ⟨a6, c6, rfl⟩ := o6.form
  have r6 := o6.rd
  (repeat' (first | (simp (maxSteps := 1000000) (disch := first | omega | (simp only [AM.DB, List.length_set, List.length_map]; first | done | omega)) only [AM.RB, Nat.reduceAdd, Nat.reduceMul, Nat.reduceEqDiff, reduceCtorEq, b4_GR18, r6.ia el_26, r6.ldi lk_3, Int.toNat_natCast]) | refine AM.drawW_fine hp (by kernel_rfl) (by kernel_rfl) (by kernel_rfl) ?_ | refine AM.opW_tied (by kernel_rfl) ?_ | refine AM.opW_untied (by kernel_rfl) ?_))
  refine grDist_w (x3.fr0 ((fr4.trans fr5).trans fr6)) (by omega) hl6 b fun v7 h7 o7 fr7 hid7 => ?_
  have hl7 := fr7.hl hl6
  have l7 := (dI_is (E := E) (show 0 ≤ (b : Int) by omega) (show (b : Int) < k by omega)).len
  rw [l7] at o7
  obtain ⟨a7, c7, rfl⟩ := o7.form
  have r7 := o7.rd
  (repeat' (first | (simp (maxSteps := 1000000) (disch := first | omega | (simp only [AM.DB, List.length_set, List.length_map]; first | done | omega)) only [AM.RB, Nat.reduceAdd, Nat.reduceMul, Nat.reduceEqDiff, reduceCtorEq, b4_GR18, r7.ia el_26, r7.ldi lk_3, Int.toNat_natCast]) | refine AM.drawW_fine hp (by kernel_rfl) (by kernel_rfl) (by kernel_rfl) ?_ | refine AM.opW_tied (by kernel_rfl) ?_ | refine AM.opW_untied (by kernel_rfl) ?_))
  have y7 := x4.fr0 ((fr5.trans fr6).trans fr7)
  refine grDist_w y7 (by omega) hl7 b fun v8 h8 o8 fr8 hid8 => ?_
  have hl8 := fr8.hl hl7
  have l8 := (dI_is (E := fun x y => E y x) (show 0 ≤ (b : Int) by omega) (show (b : Int) < k by omega)).len
  rw [l8] at o8
  obtain ⟨a8, c8, rfl⟩ := o8.form
  have r8 := o8.rd
  have x8 := x3.fr0 ((((fr4.trans fr5).trans fr6).trans fr7).trans fr8)
  have s8 := oS.fr0 ((fr6.trans fr7).trans fr8)
  have t8 := s8.rd
  (repeat' (first | (simp (maxSteps := 1000000) (disch := first | omega | (simp only [AM.DB, List.length_set, List.length_map]; first | done | omega)) only [AM.RB, Nat.reduceAdd, Nat.reduceMul, Nat.reduceEqDiff, reduceCtorEq, b4_GR18, r8.ia el_26, r8.ldi lk_3, Int.toNat_natCast]) | refine AM.drawW_fine hp (by kernel_rfl) (by kernel_rfl) (by kernel_rfl) ?_ | refine AM.opW_tied (by kernel_rfl) ?_ | refine AM.opW_untied (by kernel_rfl) ?_))
  refine grStrong_w (y7.fr0 fr8) (by omega) hl8 fun v9 h9 o9 fr9 hid9 => ?_
  have hl9 := fr9.hl hl8
  (repeat' (first | (simp (maxSteps := 1000000) (disch := first | omega | (simp only [AM.DB, List.length_set, List.length_map]; first | done | omega)) only [AM.RB, Nat.reduceAdd, Nat.reduceMul, Nat.reduceEqDiff, reduceCtorEq, b4_GR18]) | refine AM.drawW_fine hp (by kernel_rfl) (by kernel_rfl) (by kernel_rfl) ?_ | refine AM.opW_tied (by kernel_rfl) ?_ | refine AM.opW_untied (by kernel_rfl) ?_))
  refine same_w (s8.fr0 fr9).rd o9.rd (by omega) ?_
  have es : strongL k E = strongL k (fun x y => E y x) := by unfold strongL; rw [strong_back k E k (Nat.le_refl _)]
  rw [decide_eq_true es]
  (repeat' (first | (simp (maxSteps := 1000000) (disch := first | omega | (simp only [AM.DB, List.length_set, List.length_map]; first | done | omega)) only [AM.RB, Nat.reduceAdd, Nat.reduceMul, Nat.reduceEqDiff, reduceCtorEq, b4_GR18]) | refine AM.drawW_fine hp (by kernel_rfl) (by kernel_rfl) (by kernel_rfl) ?_ | refine AM.opW_tied (by kernel_rfl) ?_ | refine AM.opW_untied (by kernel_rfl) ?_))
  refine grJoints_w (x8.fr0 fr9) (by omega) hl9 fun v10 h10 o10 fr10 hid10 => ?_
  have hl10 := fr10.hl hl9
  (repeat' (first | (simp (maxSteps := 1000000) (disch := first | omega | (simp only [AM.DB, List.length_set, List.length_map]; first | done | omega)) only [AM.RB, Nat.reduceAdd, Nat.reduceMul, Nat.reduceEqDiff, reduceCtorEq, b4_GR18]) | refine AM.drawW_fine hp (by kernel_rfl) (by kernel_rfl) (by kernel_rfl) ?_ | refine AM.opW_tied (by kernel_rfl) ?_ | refine AM.opW_untied (by kernel_rfl) ?_))
  refine grJoints_w (y7.fr0 ((fr8.trans fr9).trans fr10)) (by omega) hl10 fun v11 h11 o11 fr11 hid11 => ?_
  have hl11 := fr11.hl hl10
  have l10 := jointsL_len k E k
  (repeat' (first | (simp (maxSteps := 1000000) (disch := first | omega | (simp only [AM.DB, List.length_set, List.length_map]; first | done | omega)) only [AM.RB, Nat.reduceAdd, Nat.reduceMul, Nat.reduceEqDiff, reduceCtorEq, b4_GR18]) | refine AM.drawW_fine hp (by kernel_rfl) (by kernel_rfl) (by kernel_rfl) ?_ | refine AM.opW_tied (by kernel_rfl) ?_ | refine AM.opW_untied (by kernel_rfl) ?_))
  refine same_w (o10.fr0 fr11).rd o11.rd (by omega) ?_
  rw [decide_eq_true (joints_back k E).symm]
  have e1 : decide (0 ≤ (dI k E a).getD b 0) = decide (0 ≤ (dI k (fun x y => E y x) b).getD a 0) := by
    refine decide_eq_decide.2 ?_
    rw [dI_reach ak bk, dI_reach bk ak]
    exact in_out.symm
  have e2 := strong_mut (E := E) ak bk
  rw [← dI_reach ak bk, ← dI_reach bk ak] at e2
  have t11 := (s8.fr0 ((fr9.trans fr10).trans fr11)).rd
  have x11 := x8.fr0 ((fr9.trans fr10).trans fr11)
  have y11 := y7.fr0 (((fr8.trans fr9).trans fr10).trans fr11)
  generalize strongL k E = SL at *
  generalize (dI k (fun x y => E y x) b).getD a 0 = tu at *
  generalize (dI k E a).getD b 0 = th at *
  generalize (dI k E b).getD a 0 = ho at *
  have alt : (decide (0 ≤ th) = true ∧ ∃ o, decide (0 ≤ ho) = o ∧ decide (SL.getD a 0 = SL.getD b 0) = o) ∨ (decide (0 ≤ th) = false ∧ ∃ o, decide (0 ≤ ho) = o ∧ decide (SL.getD a 0 = SL.getD b 0) = false) := by
    by_cases qT : 0 ≤ th
    · refine .inl ⟨decide_eq_true qT, _, rfl, ?_⟩
      exact decide_eq_decide.2 ⟨fun q => (e2.1 q).2, fun q => e2.2 ⟨qT, q⟩⟩
    · exact .inr ⟨decide_eq_false qT, _, rfl, decide_eq_false fun q => qT (e2.1 q).1⟩
  rcases alt with ⟨dT, o, dH, dS⟩ | ⟨dT, o, dH, dS⟩
  all_goals rw [dT] at e1
  all_goals cases o
  all_goals (
    (repeat' (first | (simp (maxSteps := 1000000) (disch := first | omega | (simp only [AM.DB, List.length_set, List.length_map]; first | done | omega)) only [AM.RB, Nat.reduceAdd, Nat.reduceMul, Nat.reduceEqDiff, reduceCtorEq, b4_GR18, t11.ia el_26, t11.ldi lk_3, Int.toNat_natCast, dT, dH, dS, ← e1]) | refine AM.drawW_fine hp (by kernel_rfl) (by kernel_rfl) (by kernel_rfl) ?_ | refine AM.opW_tied (by kernel_rfl) ?_ | refine AM.opW_untied (by kernel_rfl) ?_))
    refine grHas_w x11 (by omega) a b ?_
    (repeat' (first | (simp (maxSteps := 1000000) (disch := first | omega | (simp only [AM.DB, List.length_set, List.length_map]; first | done | omega)) only [AM.RB, Nat.reduceAdd, Nat.reduceMul, Nat.reduceEqDiff, reduceCtorEq, b4_GR18]) | refine AM.drawW_fine hp (by kernel_rfl) (by kernel_rfl) (by kernel_rfl) ?_ | refine AM.opW_tied (by kernel_rfl) ?_ | refine AM.opW_untied (by kernel_rfl) ?_))
    refine grHas_w y11 (by omega) b a ?_
    rw [eI_back (E := E)]
    (repeat' (first | (simp (maxSteps := 1000000) (disch := first | omega | (simp only [AM.DB, List.length_set, List.length_map]; first | done | omega)) only [AM.RB, Nat.reduceAdd, Nat.reduceMul, Nat.reduceEqDiff, reduceCtorEq, b4_GR18]) | refine AM.drawW_fine hp (by kernel_rfl) (by kernel_rfl) (by kernel_rfl) ?_ | refine AM.opW_tied (by kernel_rfl) ?_ | refine AM.opW_untied (by kernel_rfl) ?_))
  )
end Go.Proofs.Ytnkbdbopiancmaa
