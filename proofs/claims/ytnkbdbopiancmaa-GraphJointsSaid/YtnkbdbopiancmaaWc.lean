/- Walks of this claim's functions, and plain laws. -/
import Derived.Test.YtnkbdbopiancmaaWb
import Derived.Test.YtnkbdbopiancmaaAMBfs2
import Derived.Test.YtnkbdbopiancmaaAMBfs3
set_option linter.unusedSimpArgs false
set_option linter.unusedVariables false
namespace Go.Proofs.Ytnkbdbopiancmaa
open Go.AM
set_option maxRecDepth 8000
/-! ### Distances -/
theorem dI_is {n : Nat} {E : Nat → Nat → Bool} {a : Int} (h0 : 0 ≤ a) (h1 : a < n) : IsDist (outsI n E) n a (dI n E a) := by
  unfold dI
  rw [if_pos ⟨h0, h1⟩]
  exact (bfs_spec outsI_dom h0 h1).1
theorem getD_memI {l : List Int} {k : Nat} (hk : k < l.length) : l.getD k 0 ∈ l := by
  have : l.getD k 0 = l[k] := by simp [List.getD, hk]
  rw [this]; exact List.getElem_mem hk

def kN (n : Int) : Nat := 1 + n.toNat % 40
theorem kN_le (n : Int) : 1 ≤ kN n ∧ kN n ≤ 40 := by unfold kN; omega
theorem kN_eq {n : Int} (h : 0 ≤ n ∧ n < 256) : IntKind.i64.wrap (1 + (IntKind.i64.wrap n).tmod 40) = ((kN n : Nat) : Int) := by
  obtain ⟨m, rfl⟩ := Int.eq_ofNat_of_zero_le h.1
  have e1 : IntKind.i64.wrap (m : Int) = m := AM.wrap_i64 (by omega) (by omega)
  have e2 : (m : Int).tmod 40 = ((m % 40 : Nat) : Int) := by rw [Int.tmod_eq_emod_of_nonneg (by omega)]; omega
  rw [e1, e2, AM.wrap_i64 (by omega) (by omega)]
  unfold kN
  rw [Int.toNat_natCast]; omega
def aN (a : Int) (k : Nat) : Nat := a.toNat % k
theorem aN_lt {a : Int} {k : Nat} (h : 1 ≤ k) : aN a k < k := Nat.mod_lt _ h
theorem aN_eq {a : Int} {k : Nat} (h : 0 ≤ a ∧ a < 256) : (IntKind.i64.wrap a).tmod k = ((aN a k : Nat) : Int) := by
  obtain ⟨m, rfl⟩ := Int.eq_ofNat_of_zero_le h.1
  have e1 : IntKind.i64.wrap (m : Int) = m := AM.wrap_i64 (by omega) (by omega)
  rw [e1, Int.tmod_eq_emod_of_nonneg (by omega)]
  unfold aN
  rw [Int.toNat_natCast]; simp

end Go.Proofs.Ytnkbdbopiancmaa

namespace Go.Proofs.Ytnkbdbopiancmaa
open Go.AM
end Go.Proofs.Ytnkbdbopiancmaa

namespace Go.Proofs.Ytnkbdbopiancmaa
open Go.AM

/-! ### Strong parts, plain -/
/-- Each reaches the other one. -/
def Mut (n : Nat) (E : Nat → Nat → Bool) (a b : Int) : Prop := Rc (outsI n E) a b ∧ Rc (innI n E) a b
theorem in_out {n : Nat} {E : Nat → Nat → Bool} {a b : Int} : Rc (innI n E) a b ↔ Rc (outsI n E) b a :=
  ⟨fun h => (Rc.rev (fun _ => True) trivial (fun b c _ hc => ⟨by rw [mem_innI] at hc; rw [mem_outsI]; exact hc, trivial⟩) h).1,
    fun h => (Rc.rev (fun _ => True) trivial (fun b c _ hc => ⟨by rw [mem_outsI] at hc; rw [mem_innI]; exact hc, trivial⟩) h).1⟩
theorem Mut.refl (n : Nat) (E : Nat → Nat → Bool) (a : Int) : Mut n E a a := ⟨Rc.refl _ _, Rc.refl _ _⟩
theorem Mut.symm {n : Nat} {E : Nat → Nat → Bool} {a b : Int} (h : Mut n E a b) : Mut n E b a := ⟨in_out.1 h.2, in_out.2 h.1⟩
theorem Mut.trans {n : Nat} {E : Nat → Nat → Bool} {a b c : Int} (h : Mut n E a b) (g : Mut n E b c) : Mut n E a c := ⟨h.1.trans g.1, h.2.trans g.2⟩
theorem dI_reach {n : Nat} {E : Nat → Nat → Bool} {a b : Nat} (ha : a < n) (hb : b < n) : 0 ≤ (dI n E a).getD b 0 ↔ Rc (outsI n E) a b := by
  have := (dI_is (E := E) (show 0 ≤ (a : Int) by omega) (show (a : Int) < n by omega)).reach (b := b) (by omega)
  rwa [Int.toNat_natCast] at this
structure StrongI (n : Nat) (E : Nat → Nat → Bool) (m : Nat) : Prop where
  i1 : ∀ b : Nat, b < n → (0 ≤ (strongS n E m).1.getD b 0 ↔ ∃ c : Nat, c < m ∧ Mut n E c b)
  i2 : ∀ b : Nat, b < n → (strongS n E m).1.getD b 0 < (strongS n E m).2
  i3 : ∀ b c : Nat, b < n → c < n → 0 ≤ (strongS n E m).1.getD b 0 → ((strongS n E m).1.getD b 0 = (strongS n E m).1.getD c 0 ↔ Mut n E b c)
/-! ### Joints, plain -/
theorem mem_besL {n : Nat} {E : Nat → Nat → Bool} {a w x : Int} : x ∈ besL n E a w ↔ (eI n E a x = true ∨ eI n E x a = true) ∧ x ≠ w := by
  unfold besL
  rw [List.mem_filter, List.mem_append, mem_outsI, mem_innI]
  simp
theorem bes_sym {n : Nat} {E : Nat → Nat → Bool} {w x y : Int} (hx : x ≠ w) (h : Rc (fun z => besL n E z w) x y) : Rc (fun z => besL n E z w) y x ∧ y ≠ w :=
  Rc.rev (fun z => z ≠ w) hx (fun b c hb hc => by
    rw [mem_besL] at hc
    exact ⟨by rw [mem_besL]; exact ⟨hc.1.symm, hb⟩, hc.2⟩) h
theorem jointP_iff {n : Nat} {E : Nat → Nat → Bool} {a : Int} (ha : 0 ≤ a ∧ a < n) : jointP n E a = true ↔ ∃ x y, x ∈ besL n E a a ∧ y ∈ besL n E a a ∧ ¬ Rc (fun z => besL n E z a) x y := by
  unfold jointP
  have dom := fun x (hx : x ∈ besL n E a a) => besL_dom a ha x hx
  have ne := fun x (hx : x ∈ besL n E a a) => (mem_besL.1 hx).2
  generalize hL : besL n E a a = L at *
  cases L with
  | nil => exact ⟨fun h => (by cases h), fun ⟨x, _, hx, _⟩ => (by cases hx)⟩
  | cons b l =>
    have hb : b ∈ b :: l := List.mem_cons_self ..
    have key := fun c => bfs_keys (N := fun x => besL n E x a) (n := n) besL_dom (dom b hb).1 (dom b hb).2 c
    simp only [List.any_eq_true, Bool.not_eq_true', decide_eq_false_iff_not]
    constructor
    · rintro ⟨c, hc, q⟩
      exact ⟨b, c, hb, hc, fun r => q ((key c).2 r)⟩
    · rintro ⟨x, y, hx, hy, q⟩
      by_cases h : ∃ c, c ∈ b :: l ∧ ¬ Rc (fun z => besL n E z a) b c
      · obtain ⟨c, hc, q⟩ := h
        exact ⟨c, hc, fun r => q ((key c).1 r)⟩
      · exfalso
        have al : ∀ c, c ∈ b :: l → Rc (fun z => besL n E z a) b c := fun c hc => Classical.byContradiction fun q => h ⟨c, hc, q⟩
        exact q ((bes_sym (ne b hb) (al x hx)).1.trans (al y hy))
theorem mem_jointsL {n : Nat} {E : Nat → Nat → Bool} {a : Int} : a ∈ jointsL n E n ↔ (0 ≤ a ∧ a < n) ∧ jointP n E a = true := by
  unfold jointsL
  rw [List.mem_filter, List.mem_map]
  constructor
  · rintro ⟨⟨k, hk, rfl⟩, h⟩
    have := List.mem_range.1 hk
    exact ⟨by simp only [Int.ofNat_eq_natCast]; omega, h⟩
  · rintro ⟨h, g⟩
    exact ⟨⟨a.toNat, List.mem_range.2 (by omega), by simp only [Int.ofNat_eq_natCast]; omega⟩, g⟩
end Go.Proofs.Ytnkbdbopiancmaa

namespace Go.Proofs.Ytnkbdbopiancmaa
open Go.AM

/-! ### Joints and loose joining, plain -/
/-- Both ways. -/
def uE (B : Nat → Nat → Bool) (x y : Nat) : Bool := B x y || B y x
def lE (B : Nat → Nat → Bool) (a : Nat) (x y : Nat) : Bool := uE B x y && !decide (x = a) && !decide (y = a)
theorem okAdd_comm {n : Nat} {a b : Int} : okAdd n a b = okAdd n b a := by
  unfold okAdd
  refine decide_eq_decide.2 ?_
  omega
theorem uE_add {n : Nat} {B : Nat → Nat → Bool} {o i : Int} : addE n (addE n (uE B) i o) o i = uE (addE n B o i) := by
  funext x y
  unfold addE uE
  rw [okAdd_comm (a := i) (b := o)]
  simp only
  generalize okAdd n o i = k
  generalize B x y = p
  generalize B y x = q
  generalize decide (x = i.toNat) = a
  generalize decide (y = o.toNat) = b
  generalize decide (x = o.toNat) = c
  generalize decide (y = i.toNat) = d
  revert k p q a b c d
  decide
theorem lE_in {n a : Nat} {B : Nat → Nat → Bool} {o i : Int} (ho : 0 ≤ o) (hi : 0 ≤ i) (h1 : i ≠ a) (h2 : o ≠ a) : addE n (addE n (lE B a) i o) o i = lE (addE n B o i) a := by
  funext x y
  unfold lE
  rw [← uE_add]
  unfold addE
  rw [okAdd_comm (a := i) (b := o)]
  have d1 : i.toNat ≠ a := by omega
  have d2 : o.toNat ≠ a := by omega
  by_cases e1 : x = a
  · subst e1
    simp [Ne.symm d1, Ne.symm d2]
  · by_cases e2 : y = a
    · subst e2
      simp [Ne.symm d1, Ne.symm d2]
    · simp [e1, e2]
theorem lE_out {n a : Nat} {B : Nat → Nat → Bool} {o i : Int} (ho : 0 ≤ o) (hi : 0 ≤ i) (h : i = a ∨ o = a) : lE B a = lE (addE n B o i) a := by
  funext x y
  unfold lE
  rw [← uE_add]
  unfold addE
  rcases h with h | h
  · have d1 : i.toNat = a := by omega
    rw [d1]
    by_cases e1 : x = a <;> by_cases e2 : y = a <;> simp [e1, e2]
  · have d1 : o.toNat = a := by omega
    rw [d1]
    by_cases e1 : x = a <;> by_cases e2 : y = a <;> simp [e1, e2]
theorem eI_u {n : Nat} {E : Nat → Nat → Bool} {b c : Int} : eI n (uE E) b c = true ↔ eI n E b c = true ∨ eI n E c b = true := by
  unfold eI uE
  simp only [Bool.and_eq_true, Bool.or_eq_true, decide_eq_true_iff]
  constructor
  · rintro ⟨h, g | g⟩
    · exact .inl ⟨h, g⟩
    · exact .inr ⟨⟨h.2, h.1⟩, g⟩
  · rintro (⟨h, g⟩ | ⟨h, g⟩)
    · exact ⟨h, .inl g⟩
    · exact ⟨⟨h.2, h.1⟩, .inr g⟩
theorem eI_l {n a : Nat} {E : Nat → Nat → Bool} {b c : Int} : eI n (lE E a) b c = true ↔ (eI n E b c = true ∨ eI n E c b = true) ∧ b ≠ a ∧ c ≠ a := by
  rw [← eI_u]
  unfold eI lE
  simp only [Bool.and_eq_true, decide_eq_true_iff, Bool.not_eq_true', decide_eq_false_iff_not]
  constructor
  · rintro ⟨h, ⟨g, g1⟩, g2⟩
    exact ⟨⟨h, g⟩, by omega, by omega⟩
  · rintro ⟨⟨h, g⟩, g1, g2⟩
    exact ⟨h, ⟨g, by omega⟩, by omega⟩
theorem less_bes {n a : Nat} {E : Nat → Nat → Bool} {x y : Int} (hx : x ≠ a) : Rc (outsI n (lE E a)) x y ↔ Rc (fun z => besL n E z a) x y := by
  constructor
  · intro h
    refine (Rc.mono (fun _ => True) trivial (fun b c _ hc => ⟨?_, trivial⟩) h).1
    rw [mem_outsI, eI_l] at hc
    rw [mem_besL]
    exact ⟨hc.1, hc.2.2⟩
  · intro h
    refine (Rc.mono (fun z => z ≠ a) hx (fun b c hb hc => ?_) h).1
    rw [mem_besL] at hc
    exact ⟨by rw [mem_outsI, eI_l]; exact ⟨hc.1, hb, hc.2⟩, hc.2⟩
theorem whole_bes {n a : Nat} {E : Nat → Nat → Bool} {x : Int} (h : Rc (outsI n (uE E)) a x) : x = a ∨ ∃ y, y ∈ besL n E a a ∧ Rc (fun z => besL n E z a) y x := by
  obtain ⟨k, w⟩ := h
  induction w with
  | zero => exact .inl rfl
  | @step k b c w hc ih =>
    by_cases e : c = a
    · exact .inl e
    · rw [mem_outsI, eI_u] at hc
      refine .inr ?_
      rcases ih with rfl | ⟨y, hy, r⟩
      · exact ⟨c, mem_besL.2 ⟨hc, e⟩, Rc.refl _ _⟩
      · exact ⟨y, hy, r.step (mem_besL.2 ⟨hc, e⟩)⟩
theorem bes_whole {n a : Nat} {E : Nat → Nat → Bool} {y : Int} (h : y ∈ besL n E a a) : Rc (outsI n (uE E)) a y ∧ y ≠ a := by
  rw [mem_besL] at h
  exact ⟨Rc.one (by rw [mem_outsI, eI_u]; exact h.1), h.2⟩
theorem mem_reachP {n : Nat} {E : Nat → Nat → Bool} {a : Nat} (ha : a < n) {x : Int} : x ∈ reachP (dI n E a) (dI n E a).length ↔ (0 ≤ x ∧ x < n) ∧ Rc (outsI n E) a x := by
  have l := (dI_is (E := E) (show 0 ≤ (a : Int) by omega) (show (a : Int) < n by omega)).len
  unfold reachP
  rw [l, List.mem_filter, List.mem_map]
  constructor
  · rintro ⟨⟨k, hk, rfl⟩, h⟩
    have := List.mem_range.1 hk
    refine ⟨by simp only [Int.ofNat_eq_natCast]; omega, ?_⟩
    have h := of_decide_eq_true h
    simp only [Int.ofNat_eq_natCast, Int.toNat_natCast] at h
    exact (dI_reach ha this).1 h
  · rintro ⟨h, r⟩
    refine ⟨⟨x.toNat, List.mem_range.2 (by omega), by simp only [Int.ofNat_eq_natCast]; omega⟩, decide_eq_true ?_⟩
    refine (dI_reach ha (by omega)).2 ?_
    rwa [show ((x.toNat : Nat) : Int) = x by omega]
/-- What the law tells apart is what a joint is. -/
theorem joint_none {n a : Nat} {E : Nat → Nat → Bool} (ha : a < n) (h : ∀ x, x ∈ reachP (dI n (uE E) a) (dI n (uE E) a).length → x = a) : jointP n E a = false := by
  rw [← Bool.not_eq_true, jointP_iff (show 0 ≤ (a : Int) ∧ (a : Int) < n by omega)]
  rintro ⟨x, y, hx, hy, _⟩
  have dm := besL_dom (n := n) (E := E) (w := a) a (by omega) x hx
  obtain ⟨r, ne⟩ := bes_whole hx
  exact ne (h x ((mem_reachP ha).2 ⟨dm, r⟩))
theorem joint_apart {n a : Nat} {E : Nat → Nat → Bool} (ha : a < n) {f : Int} (hf : f ∈ reachP (dI n (uE E) a) (dI n (uE E) a).length) (hfa : f ≠ a) :
    jointP n E a = true ↔ ∃ x, x ∈ reachP (dI n (uE E) a) (dI n (uE E) a).length ∧ x ≠ a ∧ (dI n (lE E a) f).getD x.toNat 0 < 0 := by
  rw [jointP_iff (show 0 ≤ (a : Int) ∧ (a : Int) < n by omega)]
  obtain ⟨df, rf⟩ := (mem_reachP ha).1 hf
  have isf := dI_is (E := lE E a) df.1 df.2
  have sy := fun (x y : Int) (hx : x ≠ a) r => bes_sym (n := n) (E := E) (w := (a : Int)) (x := x) (y := y) hx r
  constructor
  · rintro ⟨x, y, hx, hy, q⟩
    have dx := besL_dom (n := n) (E := E) (w := a) a (by omega) x hx
    have dy := besL_dom (n := n) (E := E) (w := a) a (by omega) y hy
    obtain ⟨rx, nx⟩ := bes_whole hx
    obtain ⟨ry, ny⟩ := bes_whole hy
    by_cases p : 0 ≤ (dI n (lE E a) f).getD x.toNat 0
    · by_cases p2 : 0 ≤ (dI n (lE E a) f).getD y.toNat 0
      · exfalso
        have g1 := (less_bes hfa).1 ((isf.reach dx).1 p)
        have g2 := (less_bes hfa).1 ((isf.reach dy).1 p2)
        exact q ((sy _ _ hfa g1).1.trans g2)
      · exact ⟨y, (mem_reachP ha).2 ⟨dy, ry⟩, ny, by omega⟩
    · exact ⟨x, (mem_reachP ha).2 ⟨dx, rx⟩, nx, by omega⟩
  · rintro ⟨x, hx, nx, neg⟩
    obtain ⟨dx, rx⟩ := (mem_reachP ha).1 hx
    rcases whole_bes rf with e | ⟨yf, hyf, gf⟩
    · exact absurd e hfa
    rcases whole_bes rx with e | ⟨yx, hyx, gx⟩
    · exact absurd e nx
    refine ⟨yf, yx, hyf, hyx, fun r => ?_⟩
    have nyf := (bes_whole hyf).2
    have g : Rc (fun z => besL n E z a) f x := ((sy _ _ nyf gf).1.trans r).trans gx
    have := (isf.reach dx).2 ((less_bes hfa).2 g)
    omega

/-! ### Two graphs that grow beside what is kept -/
def TwoG (h : AHeap) (B : Nat → Prop) (k pw pl : Nat) (Ew El : Nat → Nat → Bool) : Prop := ∃ Sw Sl : Nat → Prop, Gt h pw k Ew Sw ∧ Gt h pl k El Sl ∧ (∀ id, Sw id → ¬ Sl id ∧ ¬ B id) ∧ (∀ id, Sl id → ¬ B id) ∧ ∀ id, B id → id < h.next
theorem TwoG.fr0 {h h' : AHeap} {B : Nat → Prop} {k pw pl : Nat} {Ew El : Nat → Nat → Bool} (x : TwoG h B k pw pl Ew El) (fr : Fr none' h h') : TwoG h' B k pw pl Ew El := by
  obtain ⟨Sw, Sl, x1, x2, d1, d2, d3⟩ := x
  exact ⟨Sw, Sl, x1.fr0 fr, x2.fr0 fr, d1, d2, fun id q => Nat.lt_of_lt_of_le (d3 id q) fr.next⟩
theorem TwoG.less {h : AHeap} {B C : Nat → Prop} {k pw pl : Nat} {Ew El : Nat → Nat → Bool} (x : TwoG h B k pw pl Ew El) (hB : ∀ id, C id → B id) : TwoG h C k pw pl Ew El := by
  obtain ⟨Sw, Sl, x1, x2, d1, d2, d3⟩ := x
  exact ⟨Sw, Sl, x1, x2, fun id q => ⟨(d1 id q).1, fun c => (d1 id q).2 (hB id c)⟩, fun id q c => d2 id q (hB id c), fun id q => d3 id (hB id q)⟩
theorem TwoG.more {h h' : AHeap} {B C : Nat → Prop} {k pw pl : Nat} {Ew El : Nat → Nat → Bool} (x : TwoG h B k pw pl Ew El) (fr : Fr none' h h') (hC : ∀ id, C id → B id ∨ (h.next ≤ id ∧ id < h'.next)) : TwoG h' C k pw pl Ew El := by
  obtain ⟨Sw, Sl, x1, x2, d1, d2, d3⟩ := x
  refine ⟨Sw, Sl, x1.fr0 fr, x2.fr0 fr, fun id q => ⟨(d1 id q).1, fun c => ?_⟩, fun id q c => ?_, fun id q => ?_⟩
  · rcases hC id c with c | c
    · exact (d1 id q).2 c
    · have := x1.lt q; omega
  · rcases hC id c with c | c
    · exact d2 id q c
    · have := x2.lt q; omega
  · rcases hC id q with c | c
    · exact Nat.lt_of_lt_of_le (d3 id c) fr.next
    · exact c.2
theorem TwoG.addW {h : AHeap} {B : Nat → Prop} {k pw pl : Nat} {Ew El : Nat → Nat → Bool} (x : TwoG h B k pw pl Ew El) (hk : k ≤ 1024) (hl : h.low ≤ h.next) (a b : Int) {Q : VQ} (hq : ∀ h' r, TwoG h' B k pw pl (addE k Ew a b) El → Fr (fun id => ¬ B id) h h' → Q (.int .i64 r) h') : W 11 [pv pw, .int .i64 a, .int .i64 b] h Q := by
  obtain ⟨Sw, Sl, x1, x2, d1, d2, d3⟩ := x
  refine grAdd_w x1 hk hl a b fun h' S' x' fr hS hS2 => hq h' _ ⟨S', Sl, x', x2.fr fr fun id q t => (d1 id t).1 q, fun id q => ?_, d2, fun id q => Nat.lt_of_lt_of_le (d3 id q) fr.next⟩ (fr.mono fun id _ q => (d1 id q).2)
  rcases hS id q with q | q
  · exact d1 id q
  · exact ⟨fun t => by have := x2.lt t; omega, fun t => by have := d3 id t; omega⟩
theorem TwoG.addL {h : AHeap} {B : Nat → Prop} {k pw pl : Nat} {Ew El : Nat → Nat → Bool} (x : TwoG h B k pw pl Ew El) (hk : k ≤ 1024) (hl : h.low ≤ h.next) (a b : Int) {Q : VQ} (hq : ∀ h' r, TwoG h' B k pw pl Ew (addE k El a b) → Fr (fun id => ¬ B id) h h' → Q (.int .i64 r) h') : W 11 [pv pl, .int .i64 a, .int .i64 b] h Q := by
  obtain ⟨Sw, Sl, x1, x2, d1, d2, d3⟩ := x
  refine grAdd_w x2 hk hl a b fun h' S' x' fr hS hS2 => hq h' _ ⟨Sw, S', x1.fr fr fun id q t => (d1 id q).1 t, x', fun id q => ⟨fun t => ?_, (d1 id q).2⟩, fun id q t => ?_, fun id q => Nat.lt_of_lt_of_le (d3 id q) fr.next⟩ (fr.mono fun id _ q => d2 id q)
  · rcases hS id t with t | t
    · exact (d1 id q).1 t
    · have := x1.lt q; omega
  · rcases hS id q with q | q
    · exact d2 id q t
    · have := d3 id t; omega
theorem TwoG.congr {h : AHeap} {B : Nat → Prop} {k pw pl : Nat} {Ew El Ew' El' : Nat → Nat → Bool} (x : TwoG h B k pw pl Ew El) (h1 : ∀ a b, a < k → b < k → Ew a b = Ew' a b) (h2 : ∀ a b, a < k → b < k → El a b = El' a b) : TwoG h B k pw pl Ew' El' := by
  obtain ⟨Sw, Sl, x1, x2, d⟩ := x
  exact ⟨Sw, Sl, x1.congr h1, x2.congr h2, d⟩
end Go.Proofs.Ytnkbdbopiancmaa

namespace Go.Proofs.Ytnkbdbopiancmaa
open Go.AM
set_option maxRecDepth 8000
theorem b3_GR20 : type_of% (And.intro (@Option.isNone_none.{0}) (And.intro (@Option.isNone_some.{0}) (And.intro (@AM.bin_add) (And.intro (AM.bin_beq ul_4) (And.intro (@AM.bin_eql) (And.intro (@AM.bin_gtr) (And.intro (@AM.bin_lss) (And.intro (@AM.bin_neq) (And.intro (AM.bin_pnil ul_24) (And.intro (@AM.bin_rem) (And.intro (@AM.cvW_int) (And.intro (AM.cv_int ul_5 ul_3) (And.intro (@AM.iaO_ok) (And.intro (AM.ia_slice el_26) (And.intro (@AM.ldO_agg) (And.intro (@AM.ldO_one) (And.intro (@AM.ld_ptr) (And.intro (AM.len_slice ul_22) (And.intro (AM.len_slice ul_26) (And.intro (@lk_3) (And.intro (@AM.op_binOp) (And.intro (@AM.op_call) (And.intro (@AM.op_convert) (And.intro (@AM.op_indexAddr) (And.intro (@AM.op_len) (And.intro (@AM.op_load) (And.intro (@AM.op_unOp) (And.intro (@AM.un_neg) (@AM.un_not))))))))))))))))))))))))))))) := And.intro (@Option.isNone_none.{0}) (And.intro (@Option.isNone_some.{0}) (And.intro (@AM.bin_add) (And.intro (AM.bin_beq ul_4) (And.intro (@AM.bin_eql) (And.intro (@AM.bin_gtr) (And.intro (@AM.bin_lss) (And.intro (@AM.bin_neq) (And.intro (AM.bin_pnil ul_24) (And.intro (@AM.bin_rem) (And.intro (@AM.cvW_int) (And.intro (AM.cv_int ul_5 ul_3) (And.intro (@AM.iaO_ok) (And.intro (AM.ia_slice el_26) (And.intro (@AM.ldO_agg) (And.intro (@AM.ldO_one) (And.intro (@AM.ld_ptr) (And.intro (AM.len_slice ul_22) (And.intro (AM.len_slice ul_26) (And.intro (@lk_3) (And.intro (@AM.op_binOp) (And.intro (@AM.op_call) (And.intro (@AM.op_convert) (And.intro (@AM.op_indexAddr) (And.intro (@AM.op_len) (And.intro (@AM.op_load) (And.intro (@AM.op_unOp) (And.intro (@AM.un_neg) (@AM.un_not))))))))))))))))))))))))))))


theorem backE_all {n : Nat} {E : Nat → Nat → Bool} {x y : Nat} (hx : x < n) (hy : y < n) : backE n E n 0 x y = E y x := by
  unfold backE
  have : ¬ y = n := by omega
  simp [hx, hy, this]
theorem backE_no {n : Nat} {E : Nat → Nat → Bool} {x y : Nat} : backE n E 0 0 x y = false := by
  unfold backE
  simp
/-- Someone of the first j, who isn't the node itself, is apart. -/
def apB (l : List Int) (D : List Int) (a : Nat) (j : Nat) : Bool := (l.take j).any fun x => !decide (x = a) && decide (D.getD x.toNat 0 < 0)
theorem apB_succ (l : List Int) (D : List Int) (a : Nat) {j : Nat} (hj : j < l.length) : apB l D a (j + 1) = (apB l D a j || (!decide (l.getD j 0 = a) && decide (D.getD (l.getD j 0).toNat 0 < 0))) := by
  unfold apB
  rw [List.take_succ_eq_append_getElem hj, List.any_append]
  have : l.getD j 0 = l[j] := by simp [List.getD, hj]
  rw [this]
  simp only [List.any_cons, List.any_nil, Bool.or_false]
def isB (l : List Int) (a : Nat) (j : Nat) : Bool := (l.take j).any fun x => decide (x = a)
theorem isB_succ (l : List Int) (a : Nat) {j : Nat} (hj : j < l.length) : isB l a (j + 1) = (isB l a j || decide (l.getD j 0 = a)) := by
  unfold isB
  rw [List.take_succ_eq_append_getElem hj, List.any_append]
  have : l.getD j 0 = l[j] := by simp [List.getD, hj]
  rw [this]
  simp only [List.any_cons, List.any_nil, Bool.or_false]
theorem take_getD {l : List Int} {j : Nat} (hj : j < l.length) : l.take (j + 1) = l.take j ++ [l.getD j 0] := by
  rw [List.take_succ_eq_append_getElem hj]
  simp [List.getD, hj]

set_option maxHeartbeats 8000000 in
theorem joints_w {h : AHeap} {n0 a0 : Int} {s : Value} {M : List (Int × Int)} (hM : Rd h 42 2 s M.length (M.flatMap encP)) (hm : (M.length : Int) ≤ 9223372036854775807) (hn : 0 ≤ n0 ∧ n0 < 256) (ha : 0 ≤ a0 ∧ a0 < 256) (hl : h.low ≤ h.next) :
    W 3 [.int .u8 n0, s, .int .u8 a0] h fun v _ => v = .bool true := by
  obtain ⟨ma, mc, rfl⟩ := hM.form
  refine AM.enter hp (fn := Try.f3) (rs := [.tmp 6]) (nt := 143) (by kernel_rfl) Try.func3 rfl rfl rfl (by kernel_rfl) ?_
  (first | (simp (maxSteps := 1000000) (disch := first | omega | (simp only [AM.DB, List.length_set, List.length_map]; first | done | omega)) only [AM.RB, Nat.reduceAdd, Nat.reduceMul, Nat.reduceEqDiff, reduceCtorEq, b3_GR20]) | skip)
  refine alive_w hl fun h1 fr1 => ?_
  have hl1 := fr1.hl hl
  (first | (simp (maxSteps := 1000000) (disch := first | omega | (simp only [AM.DB, List.length_set, List.length_map]; first | done | omega)) only [AM.RB, Nat.reduceAdd, Nat.reduceMul, Nat.reduceEqDiff, reduceCtorEq, b3_GR20]) | skip)
  have ek := kN_eq hn
  obtain ⟨k1, k40⟩ := kN_le n0
  generalize kN n0 = k at *
  rw [ek]
  refine built_w (hM.fr0 fr1) hm (by omega) hl1 fun h2 p S x2 nl fr2 hS2 => ?_
  have hl2 := fr2.hl hl1
  generalize addsE k noE M = E at *
  (first | (simp (maxSteps := 1000000) (disch := first | omega | (simp only [AM.DB, List.length_set, List.length_map]; first | done | omega)) only [AM.RB, Nat.reduceAdd, Nat.reduceMul, Nat.reduceEqDiff, reduceCtorEq, b3_GR20, ek]) | skip)
  refine built_w (M := []) (AM.Rd.nil _ _ _) (by simp) (by omega) hl2 fun h3 pw Sw x3 _ fr3 hS3 => ?_
  have hl3 := fr3.hl hl2
  (first | (simp (maxSteps := 1000000) (disch := first | omega | (simp only [AM.DB, List.length_set, List.length_map]; first | done | omega)) only [AM.RB, Nat.reduceAdd, Nat.reduceMul, Nat.reduceEqDiff, reduceCtorEq, b3_GR20, ek]) | skip)
  refine built_w (M := []) (AM.Rd.nil _ _ _) (by simp) (by omega) hl3 fun h4 pl Sl x4 _ fr4 hS4 => ?_
  have hl4 := fr4.hl hl3
  by_cases h300 : 300 < (M.length : Int)
  · have d0 : decide (300 < (M.length : Int)) = true := decide_eq_true h300
    (first | (simp (maxSteps := 1000000) (disch := first | omega | (simp only [AM.DB, List.length_set, List.length_map]; first | done | omega)) only [AM.RB, Nat.reduceAdd, Nat.reduceMul, Nat.reduceEqDiff, reduceCtorEq, b3_GR20, d0]) | skip)
  have d0 : decide (300 < (M.length : Int)) = false := decide_eq_false h300
  have ea := aN_eq (k := k) ha
  have ak := aN_lt (a := a0) k1
  generalize aN a0 k = a at *
  have z4 : TwoG h4 S k pw pl (uE (backE k E 0 0)) (lE (backE k E 0 0) a) := by
    refine ⟨Sw, Sl, (x3.fr0 fr4).congr fun x y _ _ => ?_, x4.congr fun x y _ _ => ?_, fun id q => ⟨fun t => ?_, fun t => ?_⟩, fun id q t => ?_, fun id q => ?_⟩
    · unfold uE; rw [backE_no, backE_no]; rfl
    · unfold lE uE; rw [backE_no, backE_no]; rfl
    · have := hS4 id t; have := x3.lt q; omega
    · have := hS3 id q; have := x2.lt t; omega
    · have := hS4 id q; have := x2.lt t; have := fr3.next; omega
    · have := x2.lt q; have := fr3.next; have := fr4.next; omega
  have x24 := x2.fr0 (fr3.trans fr4)
  (first | (simp (maxSteps := 1000000) (disch := first | omega | (simp only [AM.DB, List.length_set, List.length_map]; first | done | omega)) only [AM.RB, Nat.reduceAdd, Nat.reduceMul, Nat.reduceEqDiff, reduceCtorEq, b3_GR20, d0, ek, ea]) | skip)
  refine AM.loop_w hp 143 (fun i : Nat => [(7, .bool true), (8, .int .i64 k), (9, pv p), (10, pv pw), (11, pv pl), (12, .int .i64 a), (13, .int .i64 i)])
    (fun i h' => i ≤ k ∧ TwoG h' S k pw pl (uE (backE k E i 0)) (lE (backE k E i 0) a) ∧ Fr (fun id => ¬ S id) h4 h') (fun i => k - i) (by kernel_rfl) 0 ?_ ?_ ?_
  · simp (maxSteps := 1000000) (disch := first | omega | (simp only [AM.DB, List.length_set, List.length_map]; first | done | omega)) only [AM.RB, Nat.reduceAdd, Nat.reduceMul, Nat.reduceEqDiff, reduceCtorEq, b3_GR20]
    first | rfl | skip
  · exact ⟨Nat.zero_le _, z4, Fr.refl _ _⟩
  rintro i h5 ρ ⟨hi, z5, fr5⟩
  have hl5 := fr5.hl hl4
  have x5 := x24.fr fr5 (fun id q t => t q)
  (first | (simp (maxSteps := 1000000) (disch := first | omega | (simp only [AM.DB, List.length_set, List.length_map]; first | done | omega)) only [AM.RB, Nat.reduceAdd, Nat.reduceMul, Nat.reduceEqDiff, reduceCtorEq, b3_GR20]) | skip)
  refine AM.condV_split (fun hlt => ?_) (fun hlt => ?_)
  · have hik : i < k := by omega
    (first | (simp (maxSteps := 1000000) (disch := first | omega | (simp only [AM.DB, List.length_set, List.length_map]; first | done | omega)) only [AM.RB, Nat.reduceAdd, Nat.reduceMul, Nat.reduceEqDiff, reduceCtorEq, b3_GR20]) | skip)
    refine grOut_w x5 (by omega) hl5 i fun vO h6 oO fr6 hidO => ?_
    have eO : outsI k E i = outs (E i) k := by unfold outsI; rw [if_pos (by omega), Int.toNat_natCast]
    rw [eO] at oO
    obtain ⟨oa, oc, rfl⟩ := oO.form
    have lO := outs_len (E i) k
    have hl6 := fr6.hl hl5
    have z6 := z5.more (C := fun id => S id ∨ idOf (.slice oa (outs (E i) k).length oc) id) fr6 fun id q => q.elim .inl fun q => .inr ⟨hidO id q, oO.rd.lt q⟩
    generalize hB : (fun id => S id ∨ idOf (.slice oa (outs (E i) k).length oc) id) = B at z6
    have bS : ∀ id, S id → B id := fun id q => by rw [← hB]; exact .inl q
    have bO : ∀ id, idOf (.slice oa (outs (E i) k).length oc) id → B id := fun id q => by rw [← hB]; exact .inr q
    (first | (simp (maxSteps := 1000000) (disch := first | omega | (simp only [AM.DB, List.length_set, List.length_map]; first | done | omega)) only [AM.RB, Nat.reduceAdd, Nat.reduceMul, Nat.reduceEqDiff, reduceCtorEq, b3_GR20]) | skip)
    refine AM.loop_w hp 143 (fun j : Nat => [(7, .bool true), (8, .int .i64 k), (9, pv p), (10, pv pw), (11, pv pl), (12, .int .i64 a), (13, .int .i64 i), (66, .slice oa (outs (E i) k).length oc), (67, .int .i64 (outs (E i) k).length), (68, .int .i64 j)])
      (fun j h' => j ≤ (outs (E i) k).length ∧ TwoG h' B k pw pl (uE (backE k E i j)) (lE (backE k E i j) a) ∧ Fr (fun id => ¬ B id) h6 h') (fun j => (outs (E i) k).length - j) (by kernel_rfl) 0 ?_ ?_ ?_
    · simp (maxSteps := 1000000) (disch := first | omega | (simp only [AM.DB, List.length_set, List.length_map]; first | done | omega)) only [AM.RB, Nat.reduceAdd, Nat.reduceMul, Nat.reduceEqDiff, reduceCtorEq, b3_GR20]
      first | rfl | skip
    · exact ⟨Nat.zero_le _, z6, Fr.refl _ _⟩
    rintro j h7 ρ7 ⟨hj, z7, fr7⟩
    have hl7 := fr7.hl hl6
    have r7 := (oO.fr fr7 (fun id q t => t (bO id q))).rd
    (first | (simp (maxSteps := 1000000) (disch := first | omega | (simp only [AM.DB, List.length_set, List.length_map]; first | done | omega)) only [AM.RB, Nat.reduceAdd, Nat.reduceMul, Nat.reduceEqDiff, reduceCtorEq, b3_GR20]) | skip)
    refine AM.condV_split (fun hjt => ?_) (fun hjt => ?_)
    · have hjl : j < (outs (E i) k).length := by omega
      have bs := backE_step nl hik hjl
      obtain ⟨⟨c0, c1⟩, _⟩ := mem_outs.1 (getD_memI hjl)
      generalize hcc : (outs (E i) k).getD j 0 = c at *
      have eu := uE_add (n := k) (B := backE k E i j) (o := c) (i := i)
      rw [bs] at eu
      (first | (simp (maxSteps := 1000000) (disch := first | omega | (simp only [AM.DB, List.length_set, List.length_map]; first | done | omega)) only [AM.RB, Nat.reduceAdd, Nat.reduceMul, Nat.reduceEqDiff, reduceCtorEq, b3_GR20, r7.ia el_26, r7.ldi lk_3, Int.toNat_natCast, hcc]) | skip)
      refine z7.addW (by omega) hl7 i c fun h8 rr8 z8 fr8 => ?_
      have hl8 := fr8.hl hl7
      (first | (simp (maxSteps := 1000000) (disch := first | omega | (simp only [AM.DB, List.length_set, List.length_map]; first | done | omega)) only [AM.RB, Nat.reduceAdd, Nat.reduceMul, Nat.reduceEqDiff, reduceCtorEq, b3_GR20]) | skip)
      refine z8.addW (by omega) hl8 c i fun h9 rr9 z9 fr9 => ?_
      have hl9 := fr9.hl hl8
      rw [eu] at z9
      have fr79 := (fr7.trans fr8).trans fr9
      by_cases q : (i : Int) = a ∨ c = a
      · have el := lE_out (n := k) (a := a) (B := backE k E i j) (o := c) (i := i) c0 (by omega) q
        rw [bs] at el
        rw [el] at z9
        by_cases q1 : (i : Int) = a
        · have d1 : decide ((i : Int) = a) = true := decide_eq_true q1
          (first | (simp (maxSteps := 1000000) (disch := first | omega | (simp only [AM.DB, List.length_set, List.length_map]; first | done | omega)) only [AM.RB, Nat.reduceAdd, Nat.reduceMul, Nat.reduceEqDiff, reduceCtorEq, b3_GR20, d1, AM.wrap_i64]) | skip)
          refine ⟨j + 1, by omega, ?_, by omega, z9, fr79⟩
          simp (maxSteps := 1000000) (disch := first | omega | (simp only [AM.DB, List.length_set, List.length_map]; first | done | omega)) only [AM.RB, Nat.reduceAdd, Nat.reduceMul, Nat.reduceEqDiff, reduceCtorEq, b3_GR20]
          first | rfl | skip
        · have d1 : decide ((i : Int) = a) = false := decide_eq_false q1
          have d2 : decide (c = a) = true := decide_eq_true (by omega)
          (first | (simp (maxSteps := 1000000) (disch := first | omega | (simp only [AM.DB, List.length_set, List.length_map]; first | done | omega)) only [AM.RB, Nat.reduceAdd, Nat.reduceMul, Nat.reduceEqDiff, reduceCtorEq, b3_GR20, d1, d2, AM.wrap_i64]) | skip)
          refine ⟨j + 1, by omega, ?_, by omega, z9, fr79⟩
          simp (maxSteps := 1000000) (disch := first | omega | (simp only [AM.DB, List.length_set, List.length_map]; first | done | omega)) only [AM.RB, Nat.reduceAdd, Nat.reduceMul, Nat.reduceEqDiff, reduceCtorEq, b3_GR20]
          first | rfl | skip
      · have el := lE_in (n := k) (a := a) (B := backE k E i j) (o := c) (i := i) c0 (by omega) (by omega) (by omega)
        rw [bs] at el
        have d1 : decide ((i : Int) = a) = false := decide_eq_false (by omega)
        have d2 : decide (c = a) = false := decide_eq_false (by omega)
        (first | (simp (maxSteps := 1000000) (disch := first | omega | (simp only [AM.DB, List.length_set, List.length_map]; first | done | omega)) only [AM.RB, Nat.reduceAdd, Nat.reduceMul, Nat.reduceEqDiff, reduceCtorEq, b3_GR20, d1, d2]) | skip)
        refine z9.addL (by omega) hl9 i c fun h10 rr10 z10 fr10 => ?_
        have hl10 := fr10.hl hl9
        (first | (simp (maxSteps := 1000000) (disch := first | omega | (simp only [AM.DB, List.length_set, List.length_map]; first | done | omega)) only [AM.RB, Nat.reduceAdd, Nat.reduceMul, Nat.reduceEqDiff, reduceCtorEq, b3_GR20]) | skip)
        refine z10.addL (by omega) hl10 c i fun h11 rr11 z11 fr11 => ?_
        rw [el] at z11
        (first | (simp (maxSteps := 1000000) (disch := first | omega | (simp only [AM.DB, List.length_set, List.length_map]; first | done | omega)) only [AM.RB, Nat.reduceAdd, Nat.reduceMul, Nat.reduceEqDiff, reduceCtorEq, b3_GR20, AM.wrap_i64]) | skip)
        refine ⟨j + 1, by omega, ?_, by omega, z11, (fr79.trans fr10).trans fr11⟩
        simp (maxSteps := 1000000) (disch := first | omega | (simp only [AM.DB, List.length_set, List.length_map]; first | done | omega)) only [AM.RB, Nat.reduceAdd, Nat.reduceMul, Nat.reduceEqDiff, reduceCtorEq, b3_GR20]
        first | rfl | skip
    · obtain rfl : j = (outs (E i) k).length := by omega
      have br := backE_row (n := k) (E := E) hik
      have z8 := (z7.less bS).congr (Ew' := uE (backE k E (i + 1) 0)) (El' := lE (backE k E (i + 1) 0) a) (fun x y hx hy => by unfold uE; rw [br x y hx hy, br y x hy hx]) (fun x y hx hy => by unfold lE uE; rw [br x y hx hy, br y x hy hx])
      (first | (simp (maxSteps := 1000000) (disch := first | omega | (simp only [AM.DB, List.length_set, List.length_map]; first | done | omega)) only [AM.RB, Nat.reduceAdd, Nat.reduceMul, Nat.reduceEqDiff, reduceCtorEq, b3_GR20, AM.wrap_i64]) | skip)
      exact ⟨i + 1, by omega, by simp, by omega, z8, (fr5.trans fr6.weak).trans (fr7.mono fun id _ q t => q (bS id t))⟩
  obtain rfl : i = k := by omega
  obtain ⟨Tw, Tl, w5, l5, _⟩ := z5.congr (Ew' := uE E) (El' := lE E a) (fun x y hx hy => by unfold uE; rw [backE_all hx hy, backE_all hy hx, Bool.or_comm]) (fun x y hx hy => by unfold lE uE; rw [backE_all hx hy, backE_all hy hx, Bool.or_comm (E y x)])
  (first | (simp (maxSteps := 1000000) (disch := first | omega | (simp only [AM.DB, List.length_set, List.length_map]; first | done | omega)) only [AM.RB, Nat.reduceAdd, Nat.reduceMul, Nat.reduceEqDiff, reduceCtorEq, b3_GR20]) | skip)
  have hl5' := hl5
  refine grReach_w w5 (by omega) hl5 a fun vR h6 oR fr6 hidR => ?_
  have hl6 := fr6.hl hl5
  have jn := joint_none (E := E) ak
  have ja := fun f hf hfa => joint_apart (E := E) ak (f := f) hf hfa
  have mr := fun x => mem_reachP (E := uE E) ak (x := x)
  have lR : (reachP (dI i (uE E) a) (dI i (uE E) a).length).length ≤ 40 := by have := reachP_len (dI i (uE E) a) (dI i (uE E) a).length; have := dI_len i (uE E) a; omega
  generalize reachP (dI i (uE E) a) (dI i (uE E) a).length = R at *
  obtain ⟨ra, rc, rfl⟩ := oR.form
  have l6 := l5.fr0 fr6
  have x6 := x5.fr0 fr6
  (first | (simp (maxSteps := 1000000) (disch := first | omega | (simp only [AM.DB, List.length_set, List.length_map]; first | done | omega)) only [AM.RB, Nat.reduceAdd, Nat.reduceMul, Nat.reduceEqDiff, reduceCtorEq, b3_GR20]) | skip)
  refine AM.loop_w hp 143 (fun q : Nat × Value × Bool => [(7, .bool true), (8, .int .i64 i), (9, pv p), (11, pv pl), (12, .int .i64 a), (16, .bool q.2.2), (17, q.2.1), (99, .slice ra R.length rc), (100, .int .i64 R.length), (101, .int .i64 q.1)])
    (fun q h' => q.1 ≤ R.length ∧ Fr none' h6 h' ∧ ((q.2.1 = .slice none 0 0 ∧ q.2.2 = false ∧ ∀ x ∈ R.take q.1, x = a) ∨ ∃ f, f ∈ R ∧ f ≠ a ∧ Ow h' 3 1 q.2.1 i ((dI i (lE E a) f).map (.int .i64)) ∧ q.2.2 = apB R (dI i (lE E a) f) a q.1)) (fun q => R.length - q.1) (by kernel_rfl) (0, .slice none 0 0, false) ?_ ?_ ?_
  · simp (maxSteps := 1000000) (disch := first | omega | (simp only [AM.DB, List.length_set, List.length_map]; first | done | omega)) only [AM.RB, Nat.reduceAdd, Nat.reduceMul, Nat.reduceEqDiff, reduceCtorEq, b3_GR20]
    first | rfl | skip
  · exact ⟨Nat.zero_le _, Fr.refl _ _, .inl ⟨rfl, rfl, fun x hx => by simp at hx⟩⟩
  · rintro ⟨j, vf, ap⟩ h7 ρ7 ⟨hj, fr7, alt⟩
    simp only at hj alt ⊢
    have hl7 := fr7.hl hl6
    have r7 := (oR.fr0 fr7).rd
    have l7 := l6.fr0 fr7
    (first | (simp (maxSteps := 1000000) (disch := first | omega | (simp only [AM.DB, List.length_set, List.length_map]; first | done | omega)) only [AM.RB, Nat.reduceAdd, Nat.reduceMul, Nat.reduceEqDiff, reduceCtorEq, b3_GR20]) | skip)
    refine AM.condV_split (fun hjt => ?_) (fun hjt => ?_)
    · have hjl : j < R.length := by omega
      have hcR := getD_memI hjl
      have tk := take_getD hjl
      have asc := fun D => apB_succ R D a hjl
      obtain ⟨c0, c1⟩ := (mr _).1 hcR
      generalize hcc : R.getD j 0 = c at *
      by_cases ca : c = a
      · have d1 : decide (c = a) = true := decide_eq_true ca
        (first | (simp (maxSteps := 1000000) (disch := first | omega | (simp only [AM.DB, List.length_set, List.length_map]; first | done | omega)) only [AM.RB, Nat.reduceAdd, Nat.reduceMul, Nat.reduceEqDiff, reduceCtorEq, b3_GR20, r7.ia el_26, r7.ldi lk_3, Int.toNat_natCast, hcc, d1, AM.wrap_i64]) | skip)
        refine ⟨(j + 1, vf, ap), by simp only; omega, ?_, by simp only; omega, fr7, ?_⟩
        · simp (maxSteps := 1000000) (disch := first | omega | (simp only [AM.DB, List.length_set, List.length_map]; first | done | omega)) only [AM.RB, Nat.reduceAdd, Nat.reduceMul, Nat.reduceEqDiff, reduceCtorEq, b3_GR20]
          first | rfl | skip
        · simp only
          rcases alt with ⟨e1, e2, e3⟩ | ⟨f, e1, e2, e3, e4⟩
          · refine .inl ⟨e1, e2, fun x hx => ?_⟩
            rw [tk] at hx
            rcases List.mem_append.1 hx with hx | hx
            · exact e3 x hx
            · rw [List.mem_singleton.1 hx]; exact ca
          · refine .inr ⟨f, e1, e2, e3, ?_⟩
            rw [asc, d1, ← e4]; simp
      · have d1 : decide (c = a) = false := decide_eq_false ca
        rcases alt with ⟨rfl, rfl, e3⟩ | ⟨f, e1, e2, e3, e4⟩
        · (first | (simp (maxSteps := 1000000) (disch := first | omega | (simp only [AM.DB, List.length_set, List.length_map]; first | done | omega)) only [AM.RB, Nat.reduceAdd, Nat.reduceMul, Nat.reduceEqDiff, reduceCtorEq, b3_GR20, r7.ia el_26, r7.ldi lk_3, Int.toNat_natCast, hcc, d1]) | skip)
          refine grDist_w l7 (by omega) hl7 c fun vF h8 oF fr8 hidF => ?_
          have isF := dI_is (E := lE E a) c0.1 c0.2
          rw [isF.len] at oF
          have zF := isF.zero' c0.1 c0.2
          obtain ⟨fa, fc, rfl⟩ := oF.form
          have rF := oF.rd
          have d2 : decide ((dI i (lE E a) c).getD c.toNat 0 < 0) = false := by rw [zF]; rfl
          (first | (simp (maxSteps := 1000000) (disch := first | omega | (simp only [AM.DB, List.length_set, List.length_map]; first | done | omega)) only [AM.RB, Nat.reduceAdd, Nat.reduceMul, Nat.reduceEqDiff, reduceCtorEq, b3_GR20, rF.ia el_26, rF.ldi lk_3, Int.toNat_natCast, d2, AM.wrap_i64]) | skip)
          refine ⟨(j + 1, _, false), by simp only; omega, ?_, by simp only; omega, fr7.trans fr8, .inr ⟨c, hcR, ca, oF, ?_⟩⟩
          · simp (maxSteps := 1000000) (disch := first | omega | (simp only [AM.DB, List.length_set, List.length_map]; first | done | omega)) only [AM.RB, Nat.reduceAdd, Nat.reduceMul, Nat.reduceEqDiff, reduceCtorEq, b3_GR20]
            first | rfl | skip
          · simp only
            rw [asc, d2, Bool.and_false, Bool.or_false]
            symm
            unfold apB
            rw [List.any_eq_false]
            intro x hx
            rw [decide_eq_true (e3 x hx)]
            simp
        · obtain ⟨fa, fc, rfl⟩ := e3.form
          have rF := e3.rd
          have dk : decide ((i : Int) = 0) = false := decide_eq_false (by omega)
          have sc := asc (dI i (lE E a) f)
          rw [d1, ← e4] at sc
          cases ap with
          | true =>
            (first | (simp (maxSteps := 1000000) (disch := first | omega | (simp only [AM.DB, List.length_set, List.length_map]; first | done | omega)) only [AM.RB, Nat.reduceAdd, Nat.reduceMul, Nat.reduceEqDiff, reduceCtorEq, b3_GR20, r7.ia el_26, r7.ldi lk_3, Int.toNat_natCast, hcc, d1, dk, AM.wrap_i64]) | skip)
            refine ⟨(j + 1, _, true), by simp only; omega, ?_, by simp only; omega, fr7, .inr ⟨f, e1, e2, e3, ?_⟩⟩
            · simp (maxSteps := 1000000) (disch := first | omega | (simp only [AM.DB, List.length_set, List.length_map]; first | done | omega)) only [AM.RB, Nat.reduceAdd, Nat.reduceMul, Nat.reduceEqDiff, reduceCtorEq, b3_GR20]
              first | rfl | skip
            · simp only
              rw [sc]; simp
          | false =>
            (first | (simp (maxSteps := 1000000) (disch := first | omega | (simp only [AM.DB, List.length_set, List.length_map]; first | done | omega)) only [AM.RB, Nat.reduceAdd, Nat.reduceMul, Nat.reduceEqDiff, reduceCtorEq, b3_GR20, r7.ia el_26, r7.ldi lk_3, rF.ia el_26, rF.ldi lk_3, Int.toNat_natCast, hcc, d1, dk, AM.wrap_i64]) | skip)
            refine ⟨(j + 1, _, decide ((dI i (lE E a) f).getD c.toNat 0 < 0)), by simp only; omega, ?_, by simp only; omega, fr7, .inr ⟨f, e1, e2, e3, ?_⟩⟩
            · simp (maxSteps := 1000000) (disch := first | omega | (simp only [AM.DB, List.length_set, List.length_map]; first | done | omega)) only [AM.RB, Nat.reduceAdd, Nat.reduceMul, Nat.reduceEqDiff, reduceCtorEq, b3_GR20]
              first | rfl | skip
            · simp only
              rw [sc]; simp
    · obtain rfl : j = R.length := by omega
      have apj : ap = jointP i E a := by
        rcases alt with ⟨_, rfl, e3⟩ | ⟨f, e1, e2, _, e4⟩
        · rw [jn fun x hx => e3 x (by rw [List.take_length]; exact hx)]
        · rw [e4, Bool.eq_iff_iff, ja f e1 e2]
          unfold apB
          rw [List.take_length, List.any_eq_true]
          constructor
          · rintro ⟨x, hx, q⟩
            simp only [Bool.and_eq_true, Bool.not_eq_true', decide_eq_false_iff_not, decide_eq_true_iff] at q
            exact ⟨x, hx, q⟩
          · rintro ⟨x, hx, q⟩
            refine ⟨x, hx, ?_⟩
            simp only [Bool.and_eq_true, Bool.not_eq_true', decide_eq_false_iff_not, decide_eq_true_iff]
            exact q
      have x7 := x6.fr0 fr7
      (first | (simp (maxSteps := 1000000) (disch := first | omega | (simp only [AM.DB, List.length_set, List.length_map]; first | done | omega)) only [AM.RB, Nat.reduceAdd, Nat.reduceMul, Nat.reduceEqDiff, reduceCtorEq, b3_GR20]) | skip)
      refine grJoints_w x7 (by omega) hl7 fun vJ h8 oJ fr8 hidJ => ?_
      have hl8 := fr8.hl hl7
      have lJ := jointsL_len i E i
      have mj := mem_jointsL (n := i) (E := E) (a := (a : Int))
      generalize jointsL i E i = J at *
      obtain ⟨ja', jc, rfl⟩ := oJ.form
      (first | (simp (maxSteps := 1000000) (disch := first | omega | (simp only [AM.DB, List.length_set, List.length_map]; first | done | omega)) only [AM.RB, Nat.reduceAdd, Nat.reduceMul, Nat.reduceEqDiff, reduceCtorEq, b3_GR20]) | skip)
      refine AM.loop_w hp 143 (fun t : Nat => [(7, .bool true), (12, .int .i64 a), (16, .bool ap), (20, .bool (isB J a t)), (124, .slice ja' J.length jc), (125, .int .i64 J.length), (126, .int .i64 t)])
        (fun t h' => t ≤ J.length ∧ Fr none' h8 h') (fun t => J.length - t) (by kernel_rfl) 0 ?_ ?_ ?_
      · simp (maxSteps := 1000000) (disch := first | omega | (simp only [AM.DB, List.length_set, List.length_map]; first | done | omega)) only [AM.RB, Nat.reduceAdd, Nat.reduceMul, Nat.reduceEqDiff, reduceCtorEq, b3_GR20]
        first | rfl | skip
      · exact ⟨Nat.zero_le _, Fr.refl _ _⟩
      rintro t h9 ρ9 ⟨ht, fr9⟩
      have hl9 := fr9.hl hl8
      have r9 := (oJ.fr0 fr9).rd
      (first | (simp (maxSteps := 1000000) (disch := first | omega | (simp only [AM.DB, List.length_set, List.length_map]; first | done | omega)) only [AM.RB, Nat.reduceAdd, Nat.reduceMul, Nat.reduceEqDiff, reduceCtorEq, b3_GR20]) | skip)
      refine AM.condV_split (fun htt => ?_) (fun htt => ?_)
      · have htl : t < J.length := by omega
        have sc := isB_succ J a htl
        generalize hcc : J.getD t 0 = c at *
        cases hb : isB J a t with
        | true =>
          rw [hb] at sc
          (first | (simp (maxSteps := 1000000) (disch := first | omega | (simp only [AM.DB, List.length_set, List.length_map]; first | done | omega)) only [AM.RB, Nat.reduceAdd, Nat.reduceMul, Nat.reduceEqDiff, reduceCtorEq, b3_GR20, r9.ia el_26, r9.ldi lk_3, Int.toNat_natCast, hcc, hb, AM.wrap_i64]) | skip)
          refine ⟨t + 1, by omega, ?_, by omega, fr9⟩
          rw [sc]
          simp (maxSteps := 1000000) (disch := first | omega | (simp only [AM.DB, List.length_set, List.length_map]; first | done | omega)) only [AM.RB, Nat.reduceAdd, Nat.reduceMul, Nat.reduceEqDiff, reduceCtorEq, b3_GR20]
          first | rfl | skip
        | false =>
          rw [hb] at sc
          (first | (simp (maxSteps := 1000000) (disch := first | omega | (simp only [AM.DB, List.length_set, List.length_map]; first | done | omega)) only [AM.RB, Nat.reduceAdd, Nat.reduceMul, Nat.reduceEqDiff, reduceCtorEq, b3_GR20, r9.ia el_26, r9.ldi lk_3, Int.toNat_natCast, hcc, hb, AM.wrap_i64]) | skip)
          refine ⟨t + 1, by omega, ?_, by omega, fr9⟩
          rw [sc, Bool.false_or]
          simp (maxSteps := 1000000) (disch := first | omega | (simp only [AM.DB, List.length_set, List.length_map]; first | done | omega)) only [AM.RB, Nat.reduceAdd, Nat.reduceMul, Nat.reduceEqDiff, reduceCtorEq, b3_GR20]
          first | rfl | skip
      · obtain rfl : t = J.length := by omega
        have ij : isB J a J.length = ap := by
          rw [apj, Bool.eq_iff_iff]
          unfold isB
          rw [List.take_length, List.any_eq_true]
          constructor
          · rintro ⟨x, hx, q⟩
            rw [of_decide_eq_true q] at hx
            exact (mj.1 hx).2
          · intro q
            exact ⟨a, mj.2 ⟨by omega, q⟩, decide_eq_true rfl⟩
        cases ap <;> (first | (simp (maxSteps := 1000000) (disch := first | omega | (simp only [AM.DB, List.length_set, List.length_map]; first | done | omega)) only [AM.RB, Nat.reduceAdd, Nat.reduceMul, Nat.reduceEqDiff, reduceCtorEq, b3_GR20, ij]) | skip)
end Go.Proofs.Ytnkbdbopiancmaa
