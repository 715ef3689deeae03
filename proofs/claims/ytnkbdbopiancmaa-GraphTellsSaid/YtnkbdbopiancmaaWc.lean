/- Walks of this claim's functions, and plain laws. -/
import Derived.Test.YtnkbdbopiancmaaWb
set_option linter.unusedSimpArgs false
set_option linter.unusedVariables false
namespace Go.Proofs.Ytnkbdbopiancmaa
open Go.AM

/-! ### The document's search, plain -/
def dE (E : Nat → Nat → Bool) (loose : Bool) (wo : Int) (x y : Nat) : Bool := (E x y || (loose && E y x)) && !decide ((y : Int) = wo)
theorem dE_no (E : Nat → Nat → Bool) : dE E false (-1) = E := by
  funext x y
  unfold dE
  have : ¬ (y : Int) = -1 := by omega
  simp [this]
theorem dE_u (E : Nat → Nat → Bool) : dE E true (-1) = uE E := by
  funext x y
  unfold dE uE
  have : ¬ (y : Int) = -1 := by omega
  simp [this]
/-- Within a round. -/
structure LvB (n : Nat) (e : Nat → Nat → Bool) (a : Nat) (far : Nat) (out : List Int) (b c : Nat) (more : Bool) : Prop where
  len : out.length = n
  ok : ∀ x, x < n → 0 ≤ out.getD x 0 → isD (outsI n e) a x (out.getD x 0).toNat ∧ out.getD x 0 ≤ far + 1
  lo : ∀ x, x < n → ∀ d, d ≤ far → isD (outsI n e) a x d → out.getD x 0 = d
  no : ∀ x, x < n → out.getD x 0 < 0 → out.getD x 0 = -1
  dn : ∀ x, x < n → x < b → out.getD x 0 = far → ∀ y, y < n → e x y = true → 0 ≤ out.getD y 0
  cu : b < n → out.getD b 0 = far → ∀ y, y < n → y < c → e b y = true → 0 ≤ out.getD y 0
  mo : more = true ↔ ∃ x, x < n ∧ out.getD x 0 = far + 1
/-- Between rounds. -/
structure Lv (n : Nat) (e : Nat → Nat → Bool) (a : Nat) (far : Nat) (out : List Int) : Prop where
  len : out.length = n
  ok : ∀ x, x < n → 0 ≤ out.getD x 0 → isD (outsI n e) a x (out.getD x 0).toNat ∧ out.getD x 0 ≤ far
  lo : ∀ x, x < n → ∀ d, d ≤ far → isD (outsI n e) a x d → out.getD x 0 = d
  no : ∀ x, x < n → out.getD x 0 < 0 → out.getD x 0 = -1
theorem mem_e {n : Nat} {e : Nat → Nat → Bool} {x y : Nat} (hx : x < n) : (y : Int) ∈ outsI n e x ↔ y < n ∧ e x y = true := by
  rw [mem_outsI]
  unfold eI
  rw [Bool.and_eq_true, decide_eq_true_iff, Int.toNat_natCast, Int.toNat_natCast]
  exact ⟨fun h => ⟨by omega, h.2⟩, fun h => ⟨by omega, h.2⟩⟩
theorem Lv.init {n : Nat} {e : Nat → Nat → Bool} {a : Nat} (ha : a < n) : Lv n e a 0 ((List.replicate n (-1)).set a 0) := by
  have g : ∀ x, x < n → ((List.replicate n (-1 : Int)).set a 0).getD x 0 = if a = x then 0 else -1 := fun x hx => by
    rw [getD_set _ _ _ _ (by simpa using hx)]
    split
    · rfl
    · simp [List.getD, hx]
  have z : isD (outsI n e) (a : Int) a 0 := ⟨.zero, fun d hd => by omega⟩
  refine ⟨by simp, fun x hx h => ?_, fun x hx d hd h => ?_, fun x hx h => ?_⟩
  · rw [g x hx] at h ⊢
    by_cases q : a = x
    · subst q; rw [if_pos rfl]; exact ⟨z, by omega⟩
    · rw [if_neg q] at h; omega
  · obtain rfl : d = 0 := by omega
    have hw := h.1
    have : (x : Int) = a := by
      generalize hz : (0 : Nat) = zz at hw
      cases hw with
      | zero => rfl
      | step => omega
    rw [g x hx, if_pos (by omega)]; rfl
  · rw [g x hx] at h ⊢
    split
    · rename_i q; rw [if_pos q] at h; omega
    · rfl
theorem Lv.start {n : Nat} {e : Nat → Nat → Bool} {a far : Nat} {out : List Int} (x : Lv n e a far out) : LvB n e a far out 0 0 false :=
  ⟨x.len, fun y hy h => ⟨(x.ok y hy h).1, by have := (x.ok y hy h).2; omega⟩, x.lo, x.no, fun y _ h => by omega, fun _ _ y _ h => by omega, ⟨fun h => (by cases h), fun ⟨y, hy, h⟩ => by exfalso; have := (x.ok y hy (by omega)).2; omega⟩⟩
theorem LvB.skip {n : Nat} {e : Nat → Nat → Bool} {a far b c : Nat} {out : List Int} {more : Bool} (x : LvB n e a far out b c more) (h : out.getD b 0 ≠ far) : LvB n e a far out (b + 1) 0 more :=
  ⟨x.len, x.ok, x.lo, x.no, fun y hy q q2 => by
    by_cases t : y = b
    · subst t; exact absurd q2 h
    · exact x.dn y hy (by omega) q2, fun _ _ y _ q => by omega, x.mo⟩
theorem LvB.row {n : Nat} {e : Nat → Nat → Bool} {a far b : Nat} {out : List Int} {more : Bool} (x : LvB n e a far out b n more) : LvB n e a far out (b + 1) 0 more :=
  ⟨x.len, x.ok, x.lo, x.no, fun y hy q q2 => by
    by_cases t : y = b
    · subst t; exact fun z hz => x.cu hy q2 z hz hz
    · exact x.dn y hy (by omega) q2, fun _ _ y _ q => by omega, x.mo⟩
theorem LvB.pass {n : Nat} {e : Nat → Nat → Bool} {a far b c : Nat} {out : List Int} {more : Bool} (x : LvB n e a far out b c more) (h : 0 ≤ out.getD c 0 ∨ e b c = false) : LvB n e a far out b (c + 1) more :=
  ⟨x.len, x.ok, x.lo, x.no, x.dn, fun hb q y hy hc he => by
    by_cases t : y = c
    · subst t
      rcases h with h | h
      · exact h
      · rw [he] at h; cases h
    · exact x.cu hb q y hy (by omega) he, x.mo⟩
theorem LvB.set {n : Nat} {e : Nat → Nat → Bool} {a far b c : Nat} {out : List Int} {more : Bool} (x : LvB n e a far out b c more) (hb : b < n) (hc : c < n) (hf : out.getD b 0 = far) (h : out.getD c 0 < 0) (he : e b c = true) : LvB n e a far (out.set c (far + 1)) b (c + 1) true := by
  have g : ∀ y, y < n → (out.set c ((far : Int) + 1)).getD y 0 = if c = y then (far : Int) + 1 else out.getD y 0 := fun y hy => getD_set _ _ _ _ (by rw [x.len]; exact hy)
  have db := (x.ok b hb (by omega)).1
  rw [hf, Int.toNat_natCast] at db
  have wc : Wk (outsI n e) a (far + 1) c := .step db.1 ((mem_e hb).2 ⟨hc, he⟩)
  have dc : isD (outsI n e) a c (far + 1) := by
    obtain ⟨d, hd, q⟩ := wc.least
    by_cases t : d = far + 1
    · rw [← t]; exact q
    · have := x.lo c hc d (by omega) q; omega
  refine ⟨by rw [List.length_set]; exact x.len, fun y hy q => ?_, fun y hy d hd q => ?_, fun y hy q => ?_, fun y hy q q2 z hz he' => ?_, fun _ q y hy q2 he' => ?_, ⟨fun _ => ⟨c, hc, by rw [g c hc, if_pos rfl]⟩, fun _ => rfl⟩⟩
  · rw [g y hy] at q ⊢
    by_cases t : c = y
    · subst t; rw [if_pos rfl]; exact ⟨by rw [show ((far : Int) + 1).toNat = far + 1 by omega]; exact dc, by omega⟩
    · rw [if_neg t] at q ⊢; exact x.ok y hy q
  · rw [g y hy]
    by_cases t : c = y
    · subst t; have := q.uniq dc; omega
    · rw [if_neg t]; exact x.lo y hy d hd q
  · rw [g y hy] at q ⊢
    by_cases t : c = y
    · rw [if_pos t] at q; omega
    · rw [if_neg t] at q ⊢; exact x.no y hy q
  · rw [g y hy] at q2
    rw [g z hz]
    by_cases t : c = y
    · rw [if_pos t] at q2; omega
    · rw [if_neg t] at q2
      split
      · omega
      · exact x.dn y hy q q2 z hz he'
  · rw [g b hb] at q
    rw [g y hy]
    by_cases t : c = b
    · rw [if_pos t] at q; omega
    · rw [if_neg t] at q
      split
      · omega
      · rename_i t2
        exact x.cu hb q y hy (by omega) he'
theorem LvB.next {n : Nat} {e : Nat → Nat → Bool} {a far : Nat} {out : List Int} {more : Bool} {c : Nat} (ha : a < n) (x : LvB n e a far out n c more) : Lv n e a (far + 1) out ∧ (more = false → ∀ y, y < n → ∀ d, isD (outsI n e) a y d → d ≤ far) := by
  have st : ∀ y, y < n → ∀ d, isD (outsI n e) a y (d + 1) → ∃ z, z < n ∧ isD (outsI n e) a z d ∧ e z y = true := fun y hy d q => by
    obtain ⟨z, wz, hz⟩ := q.1.last
    have dz : 0 ≤ z ∧ z < (n : Int) := Wk.ok (ok := fun z => 0 ≤ z ∧ z < (n : Int)) (by omega) outsI_dom wz
    obtain ⟨m, rfl⟩ := Int.eq_ofNat_of_zero_le dz.1
    have hm : m < n := by omega
    exact ⟨m, hm, ⟨wz, fun e' he w => q.2 (e' + 1) (by omega) (.step w hz)⟩, ((mem_e hm).1 hz).2⟩
  have lo : ∀ y, y < n → ∀ d, d ≤ far + 1 → isD (outsI n e) a y d → out.getD y 0 = d := fun y hy d hd q => by
    by_cases t : d ≤ far
    · exact x.lo y hy d t q
    · obtain rfl : d = far + 1 := by omega
      obtain ⟨z, hz, dz, ez⟩ := st y hy far q
      have h0 := x.dn z hz hz (x.lo z hz far (Nat.le_refl _) dz) y hy ez
      have := (x.ok y hy h0).1.uniq q
      omega
  refine ⟨⟨x.len, fun y hy h => ⟨(x.ok y hy h).1, by have := (x.ok y hy h).2; omega⟩, lo, x.no⟩, fun hm y hy d => ?_⟩
  have none : ∀ y, y < n → ¬ isD (outsI n e) a y (far + 1) := fun y hy q => by
    have := x.mo.2 ⟨y, hy, by have := lo y hy _ (Nat.le_refl _) q; omega⟩
    rw [hm] at this; cases this
  induction d generalizing y with
  | zero => intro _; omega
  | succ d ih =>
    intro q
    obtain ⟨z, hz, dz, ez⟩ := st y hy d q
    have := ih z hz dz
    by_cases t : d = far
    · subst t; exact absurd q (none y hy)
    · omega
theorem Lv.dist {n : Nat} {e : Nat → Nat → Bool} {a far : Nat} {out : List Int} (ha : a < n) (x : Lv n e a far out) (h : ∀ y, y < n → ∀ d, isD (outsI n e) a y d → d ≤ far) : out = dI n e a := by
  refine IsDist.uniq (N := outsI n e) (n := n) (r := (a : Int)) ⟨x.len, fun b h0 h1 q => ?_, fun b h0 h1 q => ?_⟩ (dI_is (by omega) (by omega))
  · have := (x.ok b.toNat (by omega) q).1
    rwa [show ((b.toNat : Nat) : Int) = b by omega] at this
  · refine ⟨x.no b.toNat (by omega) q, fun k w => ?_⟩
    obtain ⟨d, _, dd⟩ := w.least
    have dd' : isD (outsI n e) a ((b.toNat : Nat) : Int) d := by rwa [show ((b.toNat : Nat) : Int) = b by omega]
    have := x.lo b.toNat (by omega) d (h _ (by omega) d dd') dd'
    omega
theorem Lv.full {n : Nat} {e : Nat → Nat → Bool} {a : Nat} {out : List Int} (ha : a < n) (x : Lv n e a n out) : out = dI n e a :=
  x.dist ha fun y hy d q => by
    obtain ⟨l, h1, h2, h3⟩ := isD.chain (n := n) (by omega) outsI_dom d y q
    have := nodup_len h2 fun z hz => (h3 z hz).1
    omega

/-! ### Strong parts, as the document tells them -/
theorem strong_keep (n : Nat) (E : Nat → Nat → Bool) {b : Nat} (hb : b < n) : ∀ {m : Nat}, 0 ≤ (strongS n E m).1.getD b 0 → ∀ k, m + k ≤ n → (strongS n E (m + k)).1.getD b 0 = (strongS n E m).1.getD b 0
  | _, _, 0, _ => rfl
  | m, h, k + 1, hk => by
    have ih := strong_keep n E hb h k (by omega)
    have I := strongI n E (m + k) (by omega)
    rcases strong_step E (show m + k < n by omega) with ⟨p1, p2⟩ | ⟨p1, p2, p3⟩
    · rw [show m + (k + 1) = (m + k) + 1 from rfl, p2]; exact ih
    · rcases p3 b hb with ⟨q, e⟩ | ⟨q, e⟩
      · exfalso
        obtain ⟨c, hc, mc⟩ := (I.i1 b hb).1 (by rw [ih]; exact h)
        have := (I.i1 (m + k) (by omega)).2 ⟨c, hc, mc.trans q.symm⟩
        omega
      · rw [show m + (k + 1) = (m + k) + 1 from rfl, e]; exact ih
theorem strong_old {n : Nat} {E : Nat → Nat → Bool} {a : Nat} (ha : a < n) (h : ∃ b, b < a ∧ Mut n E a b) : (strongS n E (a + 1)).2 = (strongS n E a).2 := by
  obtain ⟨b, hb, m⟩ := h
  have I := strongI n E a (by omega)
  have := (I.i1 a ha).2 ⟨b, hb, m.symm⟩
  rcases strong_step E ha with ⟨p1, p2⟩ | ⟨p1, _⟩
  · rw [p2]
  · omega
theorem strong_new {n : Nat} {E : Nat → Nat → Bool} {a : Nat} (ha : a < n) (h : ¬ ∃ b, b < a ∧ Mut n E a b) : (strongS n E (a + 1)).2 = (strongS n E a).2 + 1 ∧ (strongL n E).getD a 0 = (strongS n E a).2 := by
  have I := strongI n E a (by omega)
  rcases strong_step E ha with ⟨p1, p2⟩ | ⟨p1, p2, p3⟩
  · obtain ⟨c, hc, m⟩ := (I.i1 a ha).1 p1
    exact absurd ⟨c, hc, m.symm⟩ h
  · refine ⟨p2, ?_⟩
    rcases p3 a ha with ⟨q, e⟩ | ⟨q, _⟩
    · have pp := (strongS_len n E a).2.1
      have := strong_keep n E ha (m := a + 1) (by rw [e]; exact pp) (n - (a + 1)) (by omega)
      rw [show a + 1 + (n - (a + 1)) = n by omega] at this
      unfold strongL
      rw [this, e]
    · exact absurd (Mut.refl _ _ _) q
theorem strong_eq {n : Nat} {E : Nat → Nat → Bool} {a b : Nat} (ha : a < n) (hb : b < n) (m : Mut n E a b) : (strongL n E).getD a 0 = (strongL n E).getD b 0 := (strong_mut ha hb).2 ⟨m.1, in_out.1 m.2⟩
theorem strong_pos {n : Nat} {E : Nat → Nat → Bool} {a : Nat} (ha : a < n) : 0 ≤ (strongL n E).getD a 0 := ((strongI n E n (Nat.le_refl _)).i1 a ha).2 ⟨a, ha, Mut.refl _ _ _⟩

/-! ### Joints -/
theorem dE_bes {n a : Nat} {E : Nat → Nat → Bool} {x y : Int} (hx : x ≠ a) : Rc (outsI n (dE E true a)) x y ↔ Rc (outsI n (lE E a)) x y := by
  have key : ∀ b c : Int, eI n (dE E true a) b c = true ↔ (eI n (uE E) b c = true ∧ c ≠ a) := fun b c => by
    unfold eI dE uE
    simp only [Bool.and_eq_true, Bool.or_eq_true, decide_eq_true_iff, Bool.not_eq_true', decide_eq_false_iff_not, Bool.true_and]
    constructor
    · rintro ⟨h, g, t⟩; exact ⟨⟨h, g⟩, by omega⟩
    · rintro ⟨⟨h, g⟩, t⟩; exact ⟨h, g, by omega⟩
  constructor
  · intro h
    refine (Rc.mono (fun z => z ≠ a) hx (fun b c hb hc => ?_) h).1
    rw [mem_outsI, key, eI_u] at hc
    exact ⟨by rw [mem_outsI, eI_l]; exact ⟨hc.1, hb, hc.2⟩, hc.2⟩
  · intro h
    refine (Rc.mono (fun _ => True) trivial (fun b c _ hc => ⟨?_, trivial⟩) h).1
    rw [mem_outsI, eI_l] at hc
    rw [mem_outsI, key, eI_u]
    exact ⟨hc.1, hc.2.2⟩
theorem dE_neg {n a : Nat} {E : Nat → Nat → Bool} {f x : Nat} (hf : f < n) (hfa : f ≠ a) (hx : x < n) : (dI n (dE E true a) f).getD x 0 < 0 ↔ (dI n (lE E a) f).getD x 0 < 0 := by
  have h1 := dI_reach (E := dE E true a) hf hx
  have h2 := dI_reach (E := lE E a) hf hx
  have := dE_bes (n := n) (E := E) (x := (f : Int)) (y := (x : Int)) (show (f : Int) ≠ a by omega)
  rw [← h1, ← h2] at this
  omega
end Go.Proofs.Ytnkbdbopiancmaa

namespace Go.Proofs.Ytnkbdbopiancmaa
open Go.AM
set_option maxRecDepth 8000
theorem b20_GT2 : type_of% (And.intro (@AM.bdV_some) (And.intro (@bd_65) (And.intro (@AM.bin_add) (And.intro (@AM.bin_gtr) (And.intro (@AM.bin_lss) (And.intro (@AM.boxK_agg) (And.intro (@AM.boxK_bool) (And.intro (@AM.boxK_func) (And.intro (@AM.boxK_int) (And.intro (@AM.boxK_map) (And.intro (@AM.boxK_pointer) (And.intro (@AM.boxK_slice) (And.intro (@AM.boxK_string) (And.intro (AM.bsW_int bs_63) (And.intro (AM.bsW_nil bs_63) (And.intro (AM.bsW_slice bs_63) (And.intro (AM.bsW_string bs_63) (And.intro (@AM.fa_ptr) (And.intro (@fd_65_0) (And.intro (@AM.fillL_cons) (And.intro (@AM.fillL_nil) (And.intro (@AM.fillS_agg) (And.intro (@AM.fillS_bool) (And.intro (@AM.fillS_func) (And.intro (@AM.fillS_int) (And.intro (@AM.fillS_map) (And.intro (@AM.fillS_pointer) (And.intro (@AM.fillS_slice) (And.intro (@AM.fillS_string) (And.intro (@AM.ldO_agg) (And.intro (@AM.ldO_one) (And.intro (@AM.ld_ptr) (And.intro (@lk_63) (And.intro (AM.mkW_int mk_66) (And.intro (@AM.op_append) (And.intro (@AM.op_binOp) (And.intro (@AM.op_box) (And.intro (@AM.op_build) (And.intro (@AM.op_buildSlice) (And.intro (@AM.op_fieldAddr) (And.intro (@AM.op_load) (And.intro (@AM.op_makeSlice) (And.intro (@AM.op_nilCheck) (And.intro (@AM.op_store) (And.intro (@AM.resL_two) (And.intro (@AM.stO_agg) (And.intro (@AM.stO_bool) (And.intro (@AM.stO_int) (And.intro (@AM.stO_map) (And.intro (@AM.stO_pointer) (And.intro (@AM.stO_slice) (And.intro (@AM.stO_string) (And.intro (@AM.st_ptr) (@sz_63)))))))))))))))))))))))))))))))))))))))))))))))))))))) := And.intro (@AM.bdV_some) (And.intro (@bd_65) (And.intro (@AM.bin_add) (And.intro (@AM.bin_gtr) (And.intro (@AM.bin_lss) (And.intro (@AM.boxK_agg) (And.intro (@AM.boxK_bool) (And.intro (@AM.boxK_func) (And.intro (@AM.boxK_int) (And.intro (@AM.boxK_map) (And.intro (@AM.boxK_pointer) (And.intro (@AM.boxK_slice) (And.intro (@AM.boxK_string) (And.intro (AM.bsW_int bs_63) (And.intro (AM.bsW_nil bs_63) (And.intro (AM.bsW_slice bs_63) (And.intro (AM.bsW_string bs_63) (And.intro (@AM.fa_ptr) (And.intro (@fd_65_0) (And.intro (@AM.fillL_cons) (And.intro (@AM.fillL_nil) (And.intro (@AM.fillS_agg) (And.intro (@AM.fillS_bool) (And.intro (@AM.fillS_func) (And.intro (@AM.fillS_int) (And.intro (@AM.fillS_map) (And.intro (@AM.fillS_pointer) (And.intro (@AM.fillS_slice) (And.intro (@AM.fillS_string) (And.intro (@AM.ldO_agg) (And.intro (@AM.ldO_one) (And.intro (@AM.ld_ptr) (And.intro (@lk_63) (And.intro (AM.mkW_int mk_66) (And.intro (@AM.op_append) (And.intro (@AM.op_binOp) (And.intro (@AM.op_box) (And.intro (@AM.op_build) (And.intro (@AM.op_buildSlice) (And.intro (@AM.op_fieldAddr) (And.intro (@AM.op_load) (And.intro (@AM.op_makeSlice) (And.intro (@AM.op_nilCheck) (And.intro (@AM.op_store) (And.intro (@AM.resL_two) (And.intro (@AM.stO_agg) (And.intro (@AM.stO_bool) (And.intro (@AM.stO_int) (And.intro (@AM.stO_map) (And.intro (@AM.stO_pointer) (And.intro (@AM.stO_slice) (And.intro (@AM.stO_string) (And.intro (@AM.st_ptr) (@sz_63)))))))))))))))))))))))))))))))))))))))))))))))))))))
theorem b41_GT2 : type_of% (And.intro (@AM.bin_geq) (And.intro (@AM.bin_lss) (And.intro (@AM.fa_ptr) (And.intro (@fd_65_0) (And.intro (@AM.ldO_agg) (And.intro (@AM.ldO_one) (And.intro (@AM.ld_ptr) (And.intro (AM.len_slice ul_63) (And.intro (@lk_63) (And.intro (@AM.op_binOp) (And.intro (@AM.op_fieldAddr) (And.intro (@AM.op_len) (And.intro (@AM.op_load) (@AM.op_nilCheck)))))))))))))) := And.intro (@AM.bin_geq) (And.intro (@AM.bin_lss) (And.intro (@AM.fa_ptr) (And.intro (@fd_65_0) (And.intro (@AM.ldO_agg) (And.intro (@AM.ldO_one) (And.intro (@AM.ld_ptr) (And.intro (AM.len_slice ul_63) (And.intro (@lk_63) (And.intro (@AM.op_binOp) (And.intro (@AM.op_fieldAddr) (And.intro (@AM.op_len) (And.intro (@AM.op_load) (@AM.op_nilCheck)))))))))))))
theorem b22_GT2 : type_of% (And.intro (@AM.fa_ptr) (And.intro (@fd_65_0) (And.intro (@AM.iaO_ok) (And.intro (AM.ia_slice el_63) (And.intro (AM.ia_slice el_66) (And.intro (@AM.ldO_agg) (And.intro (@AM.ldO_one) (And.intro (@AM.ld_ptr) (And.intro (@lk_4) (And.intro (@lk_63) (And.intro (@lk_66) (And.intro (@AM.op_call) (And.intro (@AM.op_fieldAddr) (And.intro (@AM.op_indexAddr) (And.intro (@AM.op_load) (@AM.op_nilCheck)))))))))))))))) := And.intro (@AM.fa_ptr) (And.intro (@fd_65_0) (And.intro (@AM.iaO_ok) (And.intro (AM.ia_slice el_63) (And.intro (AM.ia_slice el_66) (And.intro (@AM.ldO_agg) (And.intro (@AM.ldO_one) (And.intro (@AM.ld_ptr) (And.intro (@lk_4) (And.intro (@lk_63) (And.intro (@lk_66) (And.intro (@AM.op_call) (And.intro (@AM.op_fieldAddr) (And.intro (@AM.op_indexAddr) (And.intro (@AM.op_load) (@AM.op_nilCheck)))))))))))))))
theorem b21_GT2 : type_of% (And.intro (@AM.bin_eql) (And.intro (@AM.fa_ptr) (And.intro (@fd_65_0) (And.intro (@AM.iaO_ok) (And.intro (AM.ia_slice el_63) (And.intro (AM.ia_slice el_66) (And.intro (@AM.ldO_agg) (And.intro (@AM.ldO_one) (And.intro (@AM.ld_ptr) (And.intro (@lk_63) (And.intro (@lk_66) (And.intro (@AM.op_binOp) (And.intro (@AM.op_call) (And.intro (@AM.op_fieldAddr) (And.intro (@AM.op_indexAddr) (And.intro (@AM.op_load) (And.intro (@AM.op_nilCheck) (And.intro (@AM.op_store) (And.intro (@AM.op_unOp) (And.intro (@AM.stO_agg) (And.intro (@AM.stO_bool) (And.intro (@AM.stO_int) (And.intro (@AM.stO_map) (And.intro (@AM.stO_pointer) (And.intro (@AM.stO_slice) (And.intro (@AM.stO_string) (And.intro (@AM.st_ptr) (And.intro (@sz_4) (And.intro (@AM.un_neg) (@AM.un_not)))))))))))))))))))))))))))))) := And.intro (@AM.bin_eql) (And.intro (@AM.fa_ptr) (And.intro (@fd_65_0) (And.intro (@AM.iaO_ok) (And.intro (AM.ia_slice el_63) (And.intro (AM.ia_slice el_66) (And.intro (@AM.ldO_agg) (And.intro (@AM.ldO_one) (And.intro (@AM.ld_ptr) (And.intro (@lk_63) (And.intro (@lk_66) (And.intro (@AM.op_binOp) (And.intro (@AM.op_call) (And.intro (@AM.op_fieldAddr) (And.intro (@AM.op_indexAddr) (And.intro (@AM.op_load) (And.intro (@AM.op_nilCheck) (And.intro (@AM.op_store) (And.intro (@AM.op_unOp) (And.intro (@AM.stO_agg) (And.intro (@AM.stO_bool) (And.intro (@AM.stO_int) (And.intro (@AM.stO_map) (And.intro (@AM.stO_pointer) (And.intro (@AM.stO_slice) (And.intro (@AM.stO_string) (And.intro (@AM.st_ptr) (And.intro (@sz_4) (And.intro (@AM.un_neg) (@AM.un_not)))))))))))))))))))))))))))))


/-! ### The document's graph in memory -/
def rowB (n : Nat) (E : Nat → Nat → Bool) (i : Nat) : List Value := (List.range n).map fun j => .bool (E i j)
/-- Its first m rows. -/
structure RtX (h : AHeap) (q m n : Nat) (E : Nat → Nat → Bool) (w : Value) (r : Nat → Nat) : Prop where
  g : h.get q = some (.cells [w] 65 false)
  o : Ow h 66 1 w m ((List.range m).map fun i => slT (r i) n)
  row : ∀ i, i < m → h.get (r i) = some (.cells (rowB n E i) 4 false)
  inj : ∀ i j, i < m → j < m → r i = r j → i = j
  ne : ∀ i, i < m → r i ≠ q ∧ ¬ idOf w (r i)
  nw : ¬ idOf w q
  low : h.low ≤ q ∧ ∀ i, i < m → h.low ≤ r i
def ownR (q m : Nat) (w : Value) (r : Nat → Nat) (id : Nat) : Prop := id = q ∨ idOf w id ∨ ∃ i, i < m ∧ id = r i
theorem RtX.lt {h : AHeap} {q m n : Nat} {E : Nat → Nat → Bool} {w : Value} {r : Nat → Nat} (x : RtX h q m n E w r) {id : Nat} (i : ownR q m w r id) : id < h.next := by
  rcases i with rfl | i | ⟨j, hj, rfl⟩
  · exact AM.get_some_lt x.g
  · exact x.o.lt i
  · exact AM.get_some_lt (x.row j hj)
theorem RtX.fr {T : Nat → Prop} {h h' : AHeap} {q m n : Nat} {E : Nat → Nat → Bool} {w : Value} {r : Nat → Nat} (x : RtX h q m n E w r) (fr : Fr T h h') (hT : ∀ id, ownR q m w r id → ¬ T id) : RtX h' q m n E w r :=
  ⟨fr.get x.g (hT _ (.inl rfl)), x.o.fr fr (fun id i => hT _ (.inr (.inl i))), fun i hi => fr.get (x.row i hi) (hT _ (.inr (.inr ⟨i, hi, rfl⟩))), x.inj, x.ne, x.nw, by rw [fr.low]; exact x.low⟩
/-- It owns S. -/
def Rt (h : AHeap) (q n : Nat) (E : Nat → Nat → Bool) (S : Nat → Prop) : Prop := ∃ w r, RtX h q n n E w r ∧ ∀ id, ownR q n w r id → S id
theorem Rt.fr {T S : Nat → Prop} {h h' : AHeap} {q n : Nat} {E : Nat → Nat → Bool} (x : Rt h q n E S) (fr : Fr T h h') (hT : ∀ id, S id → ¬ T id) : Rt h' q n E S := by
  obtain ⟨w, r, x, hS⟩ := x
  exact ⟨w, r, x.fr fr fun id i => hT id (hS id i), hS⟩
theorem Rt.fr0 {S : Nat → Prop} {h h' : AHeap} {q n : Nat} {E : Nat → Nat → Bool} (x : Rt h q n E S) (fr : Fr none' h h') : Rt h' q n E S := x.fr fr fun _ _ t => t

theorem rowB_no (n : Nat) (i : Nat) : AM.repeated [Value.bool false] n = rowB n noE i := by
  unfold rowB
  rw [AM.repeated_one]
  refine List.ext_getElem (by simp) fun j h1 h2 => by simp
set_option maxHeartbeats 2000000 in
theorem rfNew_w {h : AHeap} {n : Int} (hl : h.low ≤ h.next) {Q : VQ} (hbad : ¬ (0 ≤ n ∧ n ≤ 1024) → Q (.tuple #[.pointer none, .int .i64 20]) h)
    (hgood : 0 ≤ n ∧ n ≤ 1024 → ∀ h' q S, Rt h' q n.toNat noE S → Fr none' h h' → (∀ id, S id → h.next ≤ id ∧ id < h'.next) → Q (.tuple #[pv q, .int .i64 0]) h') : W 20 [.int .i64 n] h Q := by
  refine AM.enter hp (fn := Try.f20) (rs := [.tmp 2, .tmp 3]) (nt := 31) (by kernel_rfl) Try.func20 rfl rfl rfl (by kernel_rfl) ?_
  by_cases n0 : n < 0
  · have d0 : decide (n < 0) = true := decide_eq_true n0
    (repeat' (first | (simp (maxSteps := 1000000) (disch := first | omega | (simp only [AM.DB, List.length_set, List.length_map]; first | done | omega)) only [AM.RB, Nat.reduceAdd, Nat.reduceMul, Nat.reduceEqDiff, reduceCtorEq, b20_GT2, d0]) | refine AM.drawW_fine hp (by kernel_rfl) (by kernel_rfl) (by kernel_rfl) ?_ | refine AM.opW_tied (by kernel_rfl) ?_ | refine AM.opW_untied (by kernel_rfl) ?_ | refine AM.build_w ?_))
    exact hbad (by omega)
  have d0 : decide (n < 0) = false := decide_eq_false n0
  by_cases n1 : 1024 < n
  · have d1 : decide (1024 < n) = true := decide_eq_true n1
    (repeat' (first | (simp (maxSteps := 1000000) (disch := first | omega | (simp only [AM.DB, List.length_set, List.length_map]; first | done | omega)) only [AM.RB, Nat.reduceAdd, Nat.reduceMul, Nat.reduceEqDiff, reduceCtorEq, b20_GT2, d0, d1]) | refine AM.drawW_fine hp (by kernel_rfl) (by kernel_rfl) (by kernel_rfl) ?_ | refine AM.opW_tied (by kernel_rfl) ?_ | refine AM.opW_untied (by kernel_rfl) ?_ | refine AM.build_w ?_))
    exact hbad (by omega)
  have d1 : decide (1024 < n) = false := decide_eq_false n1
  obtain ⟨m, rfl⟩ := Int.eq_ofNat_of_zero_le (show 0 ≤ n by omega)
  have t1 : ((m : Nat) : Int).toNat = m := Int.toNat_natCast m
  rw [t1] at hgood
  have hm : m ≤ 1024 := by omega
  (repeat' (first | (simp (maxSteps := 1000000) (disch := first | omega | (simp only [AM.DB, List.length_set, List.length_map]; first | done | omega)) only [AM.RB, Nat.reduceAdd, Nat.reduceMul, Nat.reduceEqDiff, reduceCtorEq, b20_GT2, d0, d1]) | refine AM.drawW_fine hp (by kernel_rfl) (by kernel_rfl) (by kernel_rfl) ?_ | refine AM.opW_tied (by kernel_rfl) ?_ | refine AM.opW_untied (by kernel_rfl) ?_ | refine AM.build_w ?_))
  generalize hE_ : AHeap.alloc h _ = h1; obtain ⟨g1, fr1, n1, l1⟩ := AM.new_get hE_; clear hE_
  refine AM.loop_w hp 31 (fun i : Nat => [(0, .int .i64 m), (4, pv h.next), (5, .int .i64 i)])
    (fun i h' => i ≤ m ∧ Fr none' h h' ∧ ∃ w r, RtX h' h.next i m noE w r ∧ ∀ id, ownR h.next i w r id → h.next ≤ id) (fun i => m - i) (by kernel_rfl) 0 ?_ ?_ ?_
  · simp (maxSteps := 1000000) (disch := first | omega | (simp only [AM.DB, List.length_set, List.length_map]; first | done | omega)) only [AM.RB, Nat.reduceAdd, Nat.reduceMul, Nat.reduceEqDiff, reduceCtorEq, b20_GT2]
    first | rfl | skip
  · exact ⟨Nat.zero_le _, fr1, .slice none 0 0, fun _ => 0, ⟨g1, Ow.nil _ _ _, fun i hi => by omega, fun i j hi => by omega, fun i hi => by omega, fun t => t, ⟨by omega, fun i hi => by omega⟩⟩, fun id t => by rcases t with t | t | ⟨i, hi, _⟩; omega; exact t.elim; omega⟩
  rintro i h2 ρ ⟨hi, fr2, w, r, x, hS⟩
  have hl2 := fr2.hl hl
  have gx := x.g
  obtain ⟨wa, wc, rfl⟩ := x.o.form
  (repeat' (first | (simp (maxSteps := 1000000) (disch := first | omega | (simp only [AM.DB, List.length_set, List.length_map]; first | done | omega)) only [AM.RB, Nat.reduceAdd, Nat.reduceMul, Nat.reduceEqDiff, reduceCtorEq, b20_GT2]) | refine AM.drawW_fine hp (by kernel_rfl) (by kernel_rfl) (by kernel_rfl) ?_ | refine AM.opW_tied (by kernel_rfl) ?_ | refine AM.opW_untied (by kernel_rfl) ?_ | refine AM.build_w ?_))
  refine AM.condV_split (fun hlt => ?_) (fun hlt => ?_)
  · have him : i < m := by omega
    have rn := rowB_no m i
    (repeat' (first | (simp (maxSteps := 1000000) (disch := first | omega | (simp only [AM.DB, List.length_set, List.length_map]; first | done | omega)) only [AM.RB, Nat.reduceAdd, Nat.reduceMul, Nat.reduceEqDiff, reduceCtorEq, b20_GT2, gx]) | refine AM.drawW_fine hp (by kernel_rfl) (by kernel_rfl) (by kernel_rfl) ?_ | refine AM.opW_tied (by kernel_rfl) ?_ | refine AM.opW_untied (by kernel_rfl) ?_ | refine AM.build_w ?_))
    generalize hE_ : AHeap.alloc h2 _ = h3; obtain ⟨g3, fr3, n3, l3⟩ := AM.new_get hE_; clear hE_
    (repeat' (first | (simp (maxSteps := 1000000) (disch := first | omega | (simp only [AM.DB, List.length_set, List.length_map]; first | done | omega)) only [AM.RB, Nat.reduceAdd, Nat.reduceMul, Nat.reduceEqDiff, reduceCtorEq, b20_GT2]) | refine AM.drawW_fine hp (by kernel_rfl) (by kernel_rfl) (by kernel_rfl) ?_ | refine AM.opW_tied (by kernel_rfl) ?_ | refine AM.opW_untied (by kernel_rfl) ?_ | refine AM.build_w ?_))
    generalize hE_ : AHeap.alloc h3 _ = h4; obtain ⟨g4, fr4, n4, l4⟩ := AM.new_get hE_; clear hE_
    rw [rn] at g3
    have x3 := x.fr (fr3.trans fr4) (fun _ _ t => t)
    have hl4 := fr4.hl (fr3.hl hl2)
    have g4' := g3.fr0 fr4
    refine AM.appends_w ap_63 ap_63 x3.o (AM.Rd.whole (n := 1) (c := [slT h2.next m]) (by rw [← n3]; exact g4) rfl) rfl hl4 (AM.fits (by omega) (by omega)) (AM.fits' (by omega)) fun v h5 o5 fr5 hid5 => ?_
    have gx5 := fr5.get x3.g x3.nw
    have ltq := AM.get_some_lt x3.g
    obtain ⟨va, vc, rfl⟩ := o5.form
    have lq := x3.low.1
    have l5 := fr5.low
    have n5 := fr5.next
    (repeat' (first | (simp (maxSteps := 1000000) (disch := first | omega | (simp only [AM.DB, List.length_set, List.length_map]; first | done | omega)) only [AM.RB, Nat.reduceAdd, Nat.reduceMul, Nat.reduceEqDiff, reduceCtorEq, b20_GT2, gx5]) | refine AM.drawW_fine hp (by kernel_rfl) (by kernel_rfl) (by kernel_rfl) ?_ | refine AM.opW_tied (by kernel_rfl) ?_ | refine AM.opW_untied (by kernel_rfl) ?_ | refine AM.build_w ?_))
    generalize hE_ : AHeap.put h5 _ _ = h6; obtain ⟨g6, fr6, n6, l6⟩ := AM.put_get hE_ (by omega); clear hE_
    have lt2 := fun (id : Nat) (t : ownR h.next i (.slice wa i wc) r id) => x.lt t
    have q2 := lt2 h.next (.inl rfl)
    have R0 : ¬ idOf (.slice wa i wc) h2.next := fun t => by have := x.o.lt t; omega
    have nwv : ¬ idOf (.slice va (i + 1) vc) h.next := fun t => (hid5 _ t).elim (fun t => x.nw t) (fun t => by omega)
    have rlt := fun (j : Nat) (hj : j < i) => lt2 (r j) (.inr (.inr ⟨j, hj, rfl⟩))
    refine ⟨i + 1, by omega, by rw [AM.wrap_i64 (by omega) (by omega)]; rfl, by omega, (((fr2.trans fr3).trans fr4).fresh fr5 (fun id t => hS id (.inr (.inl t)))).fresh fr6 (fun id t => by have t : id = h.next := t; omega), .slice va (i + 1) vc, fun j => if j = i then h2.next else r j, ⟨g6, ?_, fun j hj => ?_, fun j k hj hk e => ?_, fun j hj => ?_, nwv, ⟨by rw [l6, l5]; exact lq, fun j hj => ?_⟩⟩, fun id t => ?_⟩
    · have e : ((List.range (i + 1)).map fun j => slT (if j = i then h2.next else r j) m) = ((List.range i).map fun j => slT (r j) m) ++ [slT h2.next m] := by
        rw [List.range_succ, List.map_append, List.map_cons, List.map_nil, if_pos rfl]
        congr 1
        refine List.map_congr_left fun j hj => ?_
        rw [if_neg (by have := List.mem_range.1 hj; omega)]
      rw [e]
      exact o5.fr fr6 fun id t e => by have e : id = h.next := e; exact nwv (e ▸ t)
    · by_cases t : j = i
      · rw [if_pos t]
        have := fr5.get g4' R0
        exact fr6.get this (fun e => by have e : h2.next = h.next := e; omega)
      · rw [if_neg t]
        exact fr6.get (fr5.get (x3.row j (by omega)) (x3.ne j (by omega)).2) (x3.ne j (by omega)).1
    · have lj := fun hj' => rlt j hj'
      have lk := fun hk' => rlt k hk'
      by_cases t1 : j = i <;> by_cases t2 : k = i
      · omega
      · rw [if_pos t1, if_neg t2] at e; have := lk (by omega); omega
      · rw [if_neg t1, if_pos t2] at e; have := lj (by omega); omega
      · rw [if_neg t1, if_neg t2] at e; exact x.inj j k (by omega) (by omega) e
    · by_cases t : j = i
      · rw [if_pos t]
        exact ⟨by omega, fun q => (hid5 _ q).elim R0 (fun q => by omega)⟩
      · rw [if_neg t]
        have := rlt j (by omega)
        exact ⟨(x.ne j (by omega)).1, fun q => (hid5 _ q).elim (x.ne j (by omega)).2 (fun q => by omega)⟩
    · have h1 := x.low.2
      by_cases t : j = i
      · rw [if_pos t]; omega
      · rw [if_neg t]; have := h1 j (by omega); omega
    · rcases t with t | t | ⟨j, hj, t⟩
      · omega
      · exact (hid5 _ t).elim (fun t => hS _ (.inr (.inl t))) (fun t => by have := fr2.next; omega)
      · have t : id = if j = i then h2.next else r j := t
        by_cases e : j = i
        · rw [if_pos e] at t; have := fr2.next; omega
        · rw [if_neg e] at t; exact hS id (.inr (.inr ⟨j, by omega, t⟩))
  · obtain rfl : i = m := by omega
    (repeat' (first | (simp (maxSteps := 1000000) (disch := first | omega | (simp only [AM.DB, List.length_set, List.length_map]; first | done | omega)) only [AM.RB, Nat.reduceAdd, Nat.reduceMul, Nat.reduceEqDiff, reduceCtorEq, b20_GT2]) | refine AM.drawW_fine hp (by kernel_rfl) (by kernel_rfl) (by kernel_rfl) ?_ | refine AM.opW_tied (by kernel_rfl) ?_ | refine AM.opW_untied (by kernel_rfl) ?_ | refine AM.build_w ?_))
    exact hgood (by omega) h2 _ (fun id => ownR h.next i (.slice wa i wc) r id) ⟨_, r, x, fun id t => t⟩ fr2 fun id t => ⟨hS id t, x.lt t⟩

theorem rfNode_w {h : AHeap} {q n : Nat} {E : Nat → Nat → Bool} {S : Nat → Prop} (x : Rt h q n E S) (a : Int) {Q : VQ} (hq : Q (.bool (decide (0 ≤ a ∧ a < n))) h) : W 41 [pv q, .int .i64 a] h Q := by
  obtain ⟨w, r, x, _⟩ := x
  have g := x.g
  obtain ⟨wa, wc, rfl⟩ := x.o.form
  refine AM.enter hp (fn := Try.f41) (rs := [.tmp 4]) (nt := 16) (by kernel_rfl) Try.func41 rfl rfl rfl (by kernel_rfl) ?_
  by_cases a0 : 0 ≤ a
  · have d0 : decide (0 ≤ a) = true := decide_eq_true a0
    (first | (simp (maxSteps := 1000000) (disch := first | omega | (simp only [AM.DB, List.length_set, List.length_map]; first | done | omega)) only [AM.RB, Nat.reduceAdd, Nat.reduceMul, Nat.reduceEqDiff, reduceCtorEq, b41_GT2, d0, g]) | skip)
    have e : decide (0 ≤ a ∧ a < n) = decide (a < n) := by simp [a0]
    rw [e] at hq
    exact hq
  · have d0 : decide (0 ≤ a) = false := decide_eq_false a0
    rw [decide_eq_false (fun t => a0 t.1)] at hq
    (first | (simp (maxSteps := 1000000) (disch := first | omega | (simp only [AM.DB, List.length_set, List.length_map]; first | done | omega)) only [AM.RB, Nat.reduceAdd, Nat.reduceMul, Nat.reduceEqDiff, reduceCtorEq, b41_GT2, d0]) | skip)
    exact hq
theorem rfHas_w {h : AHeap} {q n : Nat} {E : Nat → Nat → Bool} {S : Nat → Prop} (x : Rt h q n E S) (hn : n ≤ 1024) (a b : Int) {Q : VQ} (hq : Q (.bool (eI n E a b)) h) : W 22 [pv q, .int .i64 a, .int .i64 b] h Q := by
  refine AM.enter hp (fn := Try.f22) (rs := [.tmp 6]) (nt := 31) (by kernel_rfl) Try.func22 rfl rfl rfl (by kernel_rfl) ?_
  (first | (simp (maxSteps := 1000000) (disch := first | omega | (simp only [AM.DB, List.length_set, List.length_map]; first | done | omega)) only [AM.RB, Nat.reduceAdd, Nat.reduceMul, Nat.reduceEqDiff, reduceCtorEq, b22_GT2]) | skip)
  refine rfNode_w x a ?_
  (first | (simp (maxSteps := 1000000) (disch := first | omega | (simp only [AM.DB, List.length_set, List.length_map]; first | done | omega)) only [AM.RB, Nat.reduceAdd, Nat.reduceMul, Nat.reduceEqDiff, reduceCtorEq, b22_GT2]) | skip)
  refine rfNode_w x b ?_
  obtain ⟨w, r, x, _⟩ := x
  have g := x.g
  have o := x.o.rd
  obtain ⟨wa, wc, rfl⟩ := x.o.form
  by_cases ha : 0 ≤ a ∧ a < n
  · have d1 : decide (0 ≤ a ∧ a < n) = true := decide_eq_true ha
    by_cases hb : 0 ≤ b ∧ b < n
    · have d2 : decide (0 ≤ b ∧ b < n) = true := decide_eq_true hb
      have gr := x.row a.toNat (by omega)
      have e1 : ((List.range n).map fun i => slT (r i) n)[a.toNat]? = some (slT (r a.toNat) n) := by rw [List.getElem?_map, List.getElem?_range (by omega)]; rfl
      have e2 : (rowB n E a.toNat)[b.toNat]? = some (.bool (E a.toNat b.toNat)) := by unfold rowB; rw [List.getElem?_map, List.getElem?_range (by omega)]; rfl
      (first | (simp (maxSteps := 1000000) (disch := first | omega | (simp only [AM.DB, List.length_set, List.length_map]; first | done | omega)) only [AM.RB, Nat.reduceAdd, Nat.reduceMul, Nat.reduceEqDiff, reduceCtorEq, b22_GT2, d1, d2, g, o.ia el_63, o.ld lk_66, e1, gr, e2, Nat.mul_one, Nat.zero_add]) | skip)
      have : eI n E a b = E a.toNat b.toNat := by unfold eI; rw [decide_eq_true ⟨ha, hb⟩, Bool.true_and]
      rw [this] at hq
      exact hq
    · have d2 : decide (0 ≤ b ∧ b < n) = false := decide_eq_false hb
      (first | (simp (maxSteps := 1000000) (disch := first | omega | (simp only [AM.DB, List.length_set, List.length_map]; first | done | omega)) only [AM.RB, Nat.reduceAdd, Nat.reduceMul, Nat.reduceEqDiff, reduceCtorEq, b22_GT2, d1, d2]) | skip)
      have : eI n E a b = false := by unfold eI; rw [decide_eq_false (fun t => hb t.2), Bool.false_and]
      rw [this] at hq
      exact hq
  · have d1 : decide (0 ≤ a ∧ a < n) = false := decide_eq_false ha
    (first | (simp (maxSteps := 1000000) (disch := first | omega | (simp only [AM.DB, List.length_set, List.length_map]; first | done | omega)) only [AM.RB, Nat.reduceAdd, Nat.reduceMul, Nat.reduceEqDiff, reduceCtorEq, b22_GT2, d1]) | skip)
    have : eI n E a b = false := by unfold eI; rw [decide_eq_false (fun t => ha t.1), Bool.false_and]
    rw [this] at hq
    exact hq
theorem rowB_set {n : Nat} {E : Nat → Nat → Bool} {i a b : Nat} (ha : a < n) (hb : b < n) (hab : a ≠ b) : (if i = a then (rowB n E a).set b (.bool true) else rowB n E i) = rowB n (addE n E a b) i := by
  have ok : okAdd n a b = true := by unfold okAdd; exact decide_eq_true ⟨by omega, by omega, by omega⟩
  unfold rowB addE
  rw [ok, Int.toNat_natCast, Int.toNat_natCast]
  by_cases e : i = a
  · subst e
    rw [if_pos rfl]
    refine List.ext_getElem (by simp) fun j h1 h2 => ?_
    rw [List.getElem_set]
    by_cases t : b = j
    · subst t; simp
    · have : ¬ j = b := fun q => t q.symm
      simp [t, this]
  · rw [if_neg e]
    simp [e]
theorem rfAdd_w {h : AHeap} {q n : Nat} {E : Nat → Nat → Bool} {S : Nat → Prop} (x : Rt h q n E S) (hn : n ≤ 1024) (hl : h.low ≤ h.next) (a b : Int) {Q : VQ}
    (hq : ∀ h', Rt h' q n (addE n E a b) S → Fr S h h' → h'.next = h.next → Q (.int .i64 (if okAdd n a b = true then 0 else 20)) h') : W 21 [pv q, .int .i64 a, .int .i64 b] h Q := by
  have no : okAdd n a b = false → Q (.int .i64 20) h := fun e => by
    have e2 : addE n E a b = E := by funext i j; unfold addE; rw [e]; simp
    have := hq h (by rw [e2]; exact x) (Fr.refl _ _) rfl
    rw [e] at this
    exact this
  refine AM.enter hp (fn := Try.f21) (rs := [.tmp 6]) (nt := 35) (by kernel_rfl) Try.func21 rfl rfl rfl (by kernel_rfl) ?_
  (first | (simp (maxSteps := 1000000) (disch := first | omega | (simp only [AM.DB, List.length_set, List.length_map]; first | done | omega)) only [AM.RB, Nat.reduceAdd, Nat.reduceMul, Nat.reduceEqDiff, reduceCtorEq, b21_GT2]) | skip)
  refine rfNode_w x a ?_
  (first | (simp (maxSteps := 1000000) (disch := first | omega | (simp only [AM.DB, List.length_set, List.length_map]; first | done | omega)) only [AM.RB, Nat.reduceAdd, Nat.reduceMul, Nat.reduceEqDiff, reduceCtorEq, b21_GT2]) | skip)
  refine rfNode_w x b ?_
  by_cases ha : 0 ≤ a ∧ a < n
  · have d1 : decide (0 ≤ a ∧ a < n) = true := decide_eq_true ha
    by_cases hb : 0 ≤ b ∧ b < n
    · have d2 : decide (0 ≤ b ∧ b < n) = true := decide_eq_true hb
      by_cases hab : a = b
      · have d3 : decide (a = b) = true := decide_eq_true hab
        (first | (simp (maxSteps := 1000000) (disch := first | omega | (simp only [AM.DB, List.length_set, List.length_map]; first | done | omega)) only [AM.RB, Nat.reduceAdd, Nat.reduceMul, Nat.reduceEqDiff, reduceCtorEq, b21_GT2, d1, d2, d3]) | skip)
        exact no (by unfold okAdd; exact decide_eq_false fun t => t.2.2 hab)
      · have d3 : decide (a = b) = false := decide_eq_false hab
        have ok : okAdd n a b = true := by unfold okAdd; exact decide_eq_true ⟨ha, hb, hab⟩
        rw [ok] at hq
        obtain ⟨w, r, x, hS⟩ := x
        have g := x.g
        have o := x.o.rd
        obtain ⟨wa, wc, rfl⟩ := x.o.form
        have gr := x.row a.toNat (by omega)
        have e1 : ((List.range n).map fun i => slT (r i) n)[a.toNat]? = some (slT (r a.toNat) n) := by rw [List.getElem?_map, List.getElem?_range (by omega)]; rfl
        have lr := x.low.2 a.toNat (by omega)
        have lt := AM.get_some_lt gr
        (first | (simp (maxSteps := 1000000) (disch := first | omega | (simp only [AM.DB, List.length_set, List.length_map]; first | done | omega)) only [AM.RB, Nat.reduceAdd, Nat.reduceMul, Nat.reduceEqDiff, reduceCtorEq, b21_GT2, d1, d2, d3, g, o.ia el_63, o.ld lk_66, e1, gr, Nat.mul_one, Nat.zero_add]) | skip)
        rw [AM.stO_bool lr (by unfold rowB; rw [List.length_map, List.length_range]; omega)]
        generalize hE_ : AHeap.put h _ _ = h1; obtain ⟨g1, fr1, n1, l1⟩ := AM.put_get hE_ (by omega); clear hE_
        have fr1' : Fr S h h1 := fr1.mono fun id _ e => by have e : id = r a.toNat := e; exact hS id (.inr (.inr ⟨a.toNat, by omega, e⟩))
        (first | (simp (maxSteps := 1000000) (disch := first | omega | (simp only [AM.DB, List.length_set, List.length_map]; first | done | omega)) only [AM.RB, Nat.reduceAdd, Nat.reduceMul, Nat.reduceEqDiff, reduceCtorEq, b21_GT2]) | skip)
        refine hq h1 ⟨_, r, ⟨fr1.get x.g (fun e => (x.ne a.toNat (by omega)).1 e.symm), x.o.fr fr1 (fun id t e => by have e : id = r a.toNat := e; exact (x.ne a.toNat (by omega)).2 (e ▸ t)), fun i hi => ?_, x.inj, x.ne, x.nw, by rw [l1]; exact x.low⟩, hS⟩ fr1' n1
        have rs := rowB_set (n := n) (E := E) (i := i) (a := a.toNat) (b := b.toNat) (by omega) (by omega) (by omega)
        rw [show ((a.toNat : Nat) : Int) = a by omega, show ((b.toNat : Nat) : Int) = b by omega] at rs
        rw [← rs]
        by_cases e : i = a.toNat
        · rw [if_pos e, e]; exact g1
        · rw [if_neg e]
          exact fr1.get (x.row i hi) (fun q => e (x.inj _ _ hi (by omega) q))
    · have d2 : decide (0 ≤ b ∧ b < n) = false := decide_eq_false hb
      (first | (simp (maxSteps := 1000000) (disch := first | omega | (simp only [AM.DB, List.length_set, List.length_map]; first | done | omega)) only [AM.RB, Nat.reduceAdd, Nat.reduceMul, Nat.reduceEqDiff, reduceCtorEq, b21_GT2, d1, d2]) | skip)
      exact no (by unfold okAdd; exact decide_eq_false fun t => hb t.2.1)
  · have d1 : decide (0 ≤ a ∧ a < n) = false := decide_eq_false ha
    (first | (simp (maxSteps := 1000000) (disch := first | omega | (simp only [AM.DB, List.length_set, List.length_map]; first | done | omega)) only [AM.RB, Nat.reduceAdd, Nat.reduceMul, Nat.reduceEqDiff, reduceCtorEq, b21_GT2, d1]) | skip)
    exact no (by unfold okAdd; exact decide_eq_false fun t => ha t.1)
end Go.Proofs.Ytnkbdbopiancmaa

namespace Go.Proofs.Ytnkbdbopiancmaa
open Go.AM
set_option maxRecDepth 8000
theorem b24_GT3 : type_of% (And.intro (@AM.bin_add) (And.intro (@AM.bin_lss) (And.intro (AM.bsW_int bs_26) (And.intro (AM.bsW_nil bs_26) (And.intro (AM.bsW_slice bs_26) (And.intro (AM.bsW_string bs_26) (And.intro (@AM.fa_ptr) (And.intro (@fd_65_0) (And.intro (@AM.ldO_agg) (And.intro (@AM.ldO_one) (And.intro (@AM.ld_ptr) (And.intro (AM.len_slice ul_63) (And.intro (@lk_63) (And.intro (@AM.op_append) (And.intro (@AM.op_binOp) (And.intro (@AM.op_buildSlice) (And.intro (@AM.op_call) (And.intro (@AM.op_fieldAddr) (And.intro (@AM.op_len) (And.intro (@AM.op_load) (@AM.op_nilCheck))))))))))))))))))))) := And.intro (@AM.bin_add) (And.intro (@AM.bin_lss) (And.intro (AM.bsW_int bs_26) (And.intro (AM.bsW_nil bs_26) (And.intro (AM.bsW_slice bs_26) (And.intro (AM.bsW_string bs_26) (And.intro (@AM.fa_ptr) (And.intro (@fd_65_0) (And.intro (@AM.ldO_agg) (And.intro (@AM.ldO_one) (And.intro (@AM.ld_ptr) (And.intro (AM.len_slice ul_63) (And.intro (@lk_63) (And.intro (@AM.op_append) (And.intro (@AM.op_binOp) (And.intro (@AM.op_buildSlice) (And.intro (@AM.op_call) (And.intro (@AM.op_fieldAddr) (And.intro (@AM.op_len) (And.intro (@AM.op_load) (@AM.op_nilCheck))))))))))))))))))))
theorem b23_GT3 : type_of% (And.intro (@AM.bin_add) (And.intro (@AM.bin_lss) (And.intro (@AM.bin_neq) (And.intro (@AM.fa_ptr) (And.intro (@fd_65_0) (And.intro (@AM.iaO_ok) (And.intro (AM.ia_slice el_26) (And.intro (AM.ia_slice el_63) (And.intro (AM.ia_slice el_66) (And.intro (@AM.ldO_agg) (And.intro (@AM.ldO_one) (And.intro (@AM.ld_ptr) (And.intro (AM.len_slice ul_26) (And.intro (AM.len_slice ul_63) (And.intro (@lk_3) (And.intro (@lk_4) (And.intro (@lk_63) (And.intro (@lk_66) (And.intro (AM.mkW_int mk_26) (And.intro (@AM.op_binOp) (And.intro (@AM.op_call) (And.intro (@AM.op_fieldAddr) (And.intro (@AM.op_indexAddr) (And.intro (@AM.op_len) (And.intro (@AM.op_load) (And.intro (@AM.op_makeSlice) (And.intro (@AM.op_nilCheck) (And.intro (@AM.op_store) (And.intro (@AM.op_unOp) (And.intro (@AM.stO_agg) (And.intro (@AM.stO_bool) (And.intro (@AM.stO_int) (And.intro (@AM.stO_map) (And.intro (@AM.stO_pointer) (And.intro (@AM.stO_slice) (And.intro (@AM.stO_string) (And.intro (@AM.st_ptr) (And.intro (@sz_3) (And.intro (@AM.un_neg) (@AM.un_not)))))))))))))))))))))))))))))))))))))))) := And.intro (@AM.bin_add) (And.intro (@AM.bin_lss) (And.intro (@AM.bin_neq) (And.intro (@AM.fa_ptr) (And.intro (@fd_65_0) (And.intro (@AM.iaO_ok) (And.intro (AM.ia_slice el_26) (And.intro (AM.ia_slice el_63) (And.intro (AM.ia_slice el_66) (And.intro (@AM.ldO_agg) (And.intro (@AM.ldO_one) (And.intro (@AM.ld_ptr) (And.intro (AM.len_slice ul_26) (And.intro (AM.len_slice ul_63) (And.intro (@lk_3) (And.intro (@lk_4) (And.intro (@lk_63) (And.intro (@lk_66) (And.intro (AM.mkW_int mk_26) (And.intro (@AM.op_binOp) (And.intro (@AM.op_call) (And.intro (@AM.op_fieldAddr) (And.intro (@AM.op_indexAddr) (And.intro (@AM.op_len) (And.intro (@AM.op_load) (And.intro (@AM.op_makeSlice) (And.intro (@AM.op_nilCheck) (And.intro (@AM.op_store) (And.intro (@AM.op_unOp) (And.intro (@AM.stO_agg) (And.intro (@AM.stO_bool) (And.intro (@AM.stO_int) (And.intro (@AM.stO_map) (And.intro (@AM.stO_pointer) (And.intro (@AM.stO_slice) (And.intro (@AM.stO_string) (And.intro (@AM.st_ptr) (And.intro (@sz_3) (And.intro (@AM.un_neg) (@AM.un_not)))))))))))))))))))))))))))))))))))))))


theorem outs_succ (f : Nat → Bool) (k : Nat) : outs f (k + 1) = outs f k ++ if f k = true then [(k : Int)] else [] := by
  unfold outs
  rw [List.range_succ, List.filter_append, List.map_append]
  by_cases h : f k = true
  · simp [h]
  · simp [h]
theorem outs_eI {n : Nat} {E : Nat → Nat → Bool} {a : Int} : outs (fun b => eI n E a b) n = outsI n E a := by
  refine srt_eq (outs_srt _ _) ?_ fun x => ?_
  · unfold outsI; split
    · exact outs_srt _ _
    · simp
  · rw [mem_outs, mem_outsI]
    constructor
    · rintro ⟨h, g⟩
      rwa [show ((x.toNat : Nat) : Int) = x by omega] at g
    · intro g
      have d : (0 ≤ a ∧ a < n) ∧ 0 ≤ x ∧ x < n := by
        unfold eI at g
        rw [Bool.and_eq_true, decide_eq_true_iff] at g
        exact g.1
      exact ⟨d.2, by rwa [show ((x.toNat : Nat) : Int) = x by omega]⟩
theorem rfOut_w {h : AHeap} {q n : Nat} {E : Nat → Nat → Bool} {S : Nat → Prop} (x : Rt h q n E S) (hn : n ≤ 1024) (hl : h.low ≤ h.next) (a : Int) {Q : VQ}
    (hq : ∀ v h', Ow h' 3 1 v (outsI n E a).length ((outsI n E a).map (.int .i64)) → Fr none' h h' → (∀ id, idOf v id → h.next ≤ id) → Q v h') : W 24 [pv q, .int .i64 a] h Q := by
  rw [← outs_eI] at hq
  refine AM.enter hp (fn := Try.f24) (rs := [.tmp 4]) (nt := 27) (by kernel_rfl) Try.func24 rfl rfl rfl (by kernel_rfl) ?_
  (first | (simp (maxSteps := 1000000) (disch := first | omega | (simp only [AM.DB, List.length_set, List.length_map]; first | done | omega)) only [AM.RB, Nat.reduceAdd, Nat.reduceMul, Nat.reduceEqDiff, reduceCtorEq, b24_GT3]) | skip)
  refine AM.loop_w hp 27 (fun z : Nat × Value => [(0, pv q), (1, .int .i64 a), (5, z.2), (6, .int .i64 z.1)])
    (fun z h' => z.1 ≤ n ∧ Ow h' 3 1 z.2 (outs (fun b => eI n E a b) z.1).length ((outs (fun b => eI n E a b) z.1).map (.int .i64)) ∧ Fr none' h h' ∧ ∀ id, idOf z.2 id → h.next ≤ id) (fun z => n - z.1) (by kernel_rfl) (0, .slice none 0 0) ?_ ?_ ?_
  · simp (maxSteps := 1000000) (disch := first | omega | (simp only [AM.DB, List.length_set, List.length_map]; first | done | omega)) only [AM.RB, Nat.reduceAdd, Nat.reduceMul, Nat.reduceEqDiff, reduceCtorEq, b24_GT3]
    first | rfl | skip
  · exact ⟨Nat.zero_le _, Ow.nil _ _ _, Fr.refl _ _, fun _ t => t.elim⟩
  rintro ⟨i, v⟩ h1 ρ ⟨hi, o1, fr1, hid1⟩
  simp only at hi o1 hid1
  obtain ⟨va, vc, rfl⟩ := o1.form
  have hl1 := fr1.hl hl
  have x1 := x.fr0 fr1
  have rs := outs_succ (fun b => eI n E a b) i
  have rl := outs_len (fun b => eI n E a b) i
  obtain ⟨w, r, xx, _⟩ := id x1
  have g := xx.g
  obtain ⟨wa, wc, rfl⟩ := xx.o.form
  (first | (simp (maxSteps := 1000000) (disch := first | omega | (simp only [AM.DB, List.length_set, List.length_map]; first | done | omega)) only [AM.RB, Nat.reduceAdd, Nat.reduceMul, Nat.reduceEqDiff, reduceCtorEq, b24_GT3, g]) | skip)
  refine AM.condV_split (fun hlt => ?_) (fun hlt => ?_)
  · (first | (simp (maxSteps := 1000000) (disch := first | omega | (simp only [AM.DB, List.length_set, List.length_map]; first | done | omega)) only [AM.RB, Nat.reduceAdd, Nat.reduceMul, Nat.reduceEqDiff, reduceCtorEq, b24_GT3]) | skip)
    refine rfHas_w x1 hn a i ?_
    cases he : eI n E a i with
    | true =>
      simp only [he, if_true] at rs
      (first | (simp (maxSteps := 1000000) (disch := first | omega | (simp only [AM.DB, List.length_set, List.length_map]; first | done | omega)) only [AM.RB, Nat.reduceAdd, Nat.reduceMul, Nat.reduceEqDiff, reduceCtorEq, b24_GT3]) | skip)
      generalize hE_ : AHeap.alloc h1 _ = h3; obtain ⟨g3, fr3, n3, l3⟩ := AM.new_get hE_; clear hE_
      refine AM.appends_w ap_26 ap_26 (o1.fr0 fr3) (AM.Rd.whole (n := 1) (c := [.int .i64 (i : Int)]) g3 rfl) rfl (by omega) (AM.fits (by omega) (by omega)) (AM.fits' (by omega)) fun v4 h4 o4 fr4 hid4 => ?_
      have n2 := fr1.next
      (first | (simp (maxSteps := 1000000) (disch := first | omega | (simp only [AM.DB, List.length_set, List.length_map]; first | done | omega)) only [AM.RB, Nat.reduceAdd, Nat.reduceMul, Nat.reduceEqDiff, reduceCtorEq, b24_GT3, AM.wrap_i64]) | skip)
      refine ⟨(i + 1, v4), by simp only; omega, ?_, by simp only; omega, ?_, (fr1.trans fr3).fresh fr4 (fun id t => hid1 id t), fun id t => (hid4 id t).elim (hid1 id) (fun t => by omega)⟩
      · simp (maxSteps := 1000000) (disch := first | omega | (simp only [AM.DB, List.length_set, List.length_map]; first | done | omega)) only [AM.RB, Nat.reduceAdd, Nat.reduceMul, Nat.reduceEqDiff, reduceCtorEq, b24_GT3]
        first | rfl | skip
      · simp only
        rw [rs]
        simpa using o4
    | false =>
      simp only [he, Bool.false_eq_true, if_false, List.append_nil] at rs
      (first | (simp (maxSteps := 1000000) (disch := first | omega | (simp only [AM.DB, List.length_set, List.length_map]; first | done | omega)) only [AM.RB, Nat.reduceAdd, Nat.reduceMul, Nat.reduceEqDiff, reduceCtorEq, b24_GT3, AM.wrap_i64]) | skip)
      refine ⟨(i + 1, _), by simp only; omega, ?_, by simp only; omega, ?_, fr1, hid1⟩
      · simp (maxSteps := 1000000) (disch := first | omega | (simp only [AM.DB, List.length_set, List.length_map]; first | done | omega)) only [AM.RB, Nat.reduceAdd, Nat.reduceMul, Nat.reduceEqDiff, reduceCtorEq, b24_GT3]
        first | rfl | skip
      · simp only
        rw [rs]; exact o1
  · obtain rfl : i = n := by omega
    (first | (simp (maxSteps := 1000000) (disch := first | omega | (simp only [AM.DB, List.length_set, List.length_map]; first | done | omega)) only [AM.RB, Nat.reduceAdd, Nat.reduceMul, Nat.reduceEqDiff, reduceCtorEq, b24_GT3]) | skip)
    exact hq _ _ o1 fr1 hid1

def fillL (n i : Nat) : List Int := (List.range n).map fun j => if j < i then -1 else 0
theorem fill_zero (n : Nat) : AM.repeated [Value.int .i64 0] n = (fillL n 0).map (.int .i64) := by
  unfold fillL
  rw [AM.repeated_one]
  refine List.ext_getElem (by simp) fun j h1 h2 => by simp
theorem fill_succ {n i : Nat} (hi : i < n) : (fillL n i).set i (-1) = fillL n (i + 1) := by
  unfold fillL
  refine List.ext_getElem (by simp) fun j h1 h2 => ?_
  rw [List.getElem_set]
  simp only [List.getElem_map, List.getElem_range]
  by_cases e : i = j
  · subst e; simp
  · rw [if_neg e]
    by_cases t : j < i
    · rw [if_pos t, if_pos (by omega)]
    · rw [if_neg t, if_neg (by omega)]
theorem fill_all (n : Nat) : fillL n n = List.replicate n (-1) := by
  unfold fillL
  refine List.ext_getElem (by simp) fun j h1 h2 => ?_
  simp at h2
  simp [h2]

set_option maxHeartbeats 8000000 in
theorem rfDist_w {h : AHeap} {q n : Nat} {E : Nat → Nat → Bool} {S : Nat → Prop} (x : Rt h q n E S) (hn : n ≤ 1024) (hl : h.low ≤ h.next) (a wo : Int) (loose : Bool) {Q : VQ}
    (hq : ∀ v h', Ow h' 3 1 v (dI n (dE E loose wo) a).length ((dI n (dE E loose wo) a).map (.int .i64)) → Fr none' h h' → (∀ id, idOf v id → h.next ≤ id) → Q v h') : W 23 [pv q, .int .i64 a, .bool loose, .int .i64 wo] h Q := by
  refine AM.enter hp (fn := Try.f23) (rs := [.tmp 8]) (nt := 108) (by kernel_rfl) Try.func23 rfl rfl rfl (by kernel_rfl) ?_
  (first | (simp (maxSteps := 1000000) (disch := first | omega | (simp only [AM.DB, List.length_set, List.length_map]; first | done | omega)) only [AM.RB, Nat.reduceAdd, Nat.reduceMul, Nat.reduceEqDiff, reduceCtorEq, b23_GT3]) | skip)
  refine rfNode_w x a ?_
  by_cases ha : 0 ≤ a ∧ a < n
  case' neg =>
    have d1 : decide (0 ≤ a ∧ a < n) = false := decide_eq_false ha
    (first | (simp (maxSteps := 1000000) (disch := first | omega | (simp only [AM.DB, List.length_set, List.length_map]; first | done | omega)) only [AM.RB, Nat.reduceAdd, Nat.reduceMul, Nat.reduceEqDiff, reduceCtorEq, b23_GT3, d1]) | skip)
    have : dI n (dE E loose wo) a = [] := by unfold dI; rw [if_neg ha]
    rw [this] at hq
    exact hq _ _ (Ow.nil _ _ _) (Fr.refl _ _) fun _ t => t.elim
  have d1 : decide (0 ≤ a ∧ a < n) = true := decide_eq_true ha
  obtain ⟨k, rfl⟩ := Int.eq_ofNat_of_zero_le ha.1
  have hk : k < n := by omega
  obtain ⟨w, r, x, _⟩ := x
  have g := x.g
  obtain ⟨wa, wc, rfl⟩ := x.o.form
  (first | (simp (maxSteps := 1000000) (disch := first | omega | (simp only [AM.DB, List.length_set, List.length_map]; first | done | omega)) only [AM.RB, Nat.reduceAdd, Nat.reduceMul, Nat.reduceEqDiff, reduceCtorEq, b23_GT3, d1, g]) | skip)
  generalize hE_ : AHeap.alloc h _ = h1; obtain ⟨g1, fr1, n1, l1⟩ := AM.new_get hE_; clear hE_
  rw [fill_zero] at g1
  have o1 : Ow h1 3 1 (slT h.next n) n ((fillL n 0).map (.int .i64)) := AM.Ow.whole g1 (by simp [fillL]) (by omega)
  have own : ∀ id, idOf (slT h.next n) id → id = h.next := fun id t => t
  refine AM.loop_w hp 108 (fun i : Nat => [(0, pv q), (1, .int .i64 k), (2, .bool loose), (3, .int .i64 wo), (10, slT h.next n), (11, .int .i64 i)])
    (fun i h' => i ≤ n ∧ Ow h' 3 1 (slT h.next n) n ((fillL n i).map (.int .i64)) ∧ Fr none' h h') (fun i => n - i) (by kernel_rfl) 0 ?_ ?_ ?_
  · simp (maxSteps := 1000000) (disch := first | omega | (simp only [AM.DB, List.length_set, List.length_map]; first | done | omega)) only [AM.RB, Nat.reduceAdd, Nat.reduceMul, Nat.reduceEqDiff, reduceCtorEq, b23_GT3]
    first | rfl | skip
  · exact ⟨Nat.zero_le _, o1, fr1⟩
  rintro i h2 ρ ⟨hi, o2, fr2⟩
  have hl2 := fr2.hl hl
  (first | (simp (maxSteps := 1000000) (disch := first | omega | (simp only [AM.DB, List.length_set, List.length_map]; first | done | omega)) only [AM.RB, Nat.reduceAdd, Nat.reduceMul, Nat.reduceEqDiff, reduceCtorEq, b23_GT3]) | skip)
  refine AM.condV_split (fun hlt => ?_) (fun hlt => ?_)
  · have hin : i < n := by omega
    (first | (simp (maxSteps := 1000000) (disch := first | omega | (simp only [AM.DB, List.length_set, List.length_map]; first | done | omega)) only [AM.RB, Nat.reduceAdd, Nat.reduceMul, Nat.reduceEqDiff, reduceCtorEq, b23_GT3, o2.ia el_26, Int.toNat_natCast]) | skip)
    refine o2.st sz_3 (j := i) (by omega) rfl rfl fun h3 o3 fr3 n3 => ?_
    rw [← List.map_set, fill_succ hin] at o3
    (first | (simp (maxSteps := 1000000) (disch := first | omega | (simp only [AM.DB, List.length_set, List.length_map]; first | done | omega)) only [AM.RB, Nat.reduceAdd, Nat.reduceMul, Nat.reduceEqDiff, reduceCtorEq, b23_GT3, AM.wrap_i64]) | skip)
    refine ⟨i + 1, by omega, ?_, by omega, o3, fr2.fresh fr3 (fun id t => by have := own id t; omega)⟩
    simp (maxSteps := 1000000) (disch := first | omega | (simp only [AM.DB, List.length_set, List.length_map]; first | done | omega)) only [AM.RB, Nat.reduceAdd, Nat.reduceMul, Nat.reduceEqDiff, reduceCtorEq, b23_GT3]
    first | rfl | skip
  obtain rfl : i = n := by omega
  rw [fill_all] at o2
  (first | (simp (maxSteps := 1000000) (disch := first | omega | (simp only [AM.DB, List.length_set, List.length_map]; first | done | omega)) only [AM.RB, Nat.reduceAdd, Nat.reduceMul, Nat.reduceEqDiff, reduceCtorEq, b23_GT3, o2.ia el_26, Int.toNat_natCast]) | skip)
  refine o2.st sz_3 (j := k) (by omega) rfl rfl fun h3 o3 fr3 n3 => ?_
  rw [← List.map_set] at o3
  have fr03 := fr2.fresh fr3 (fun id t => by have := own id t; omega)
  have hl3 := fr03.hl hl
  have lv0 := Lv.init (e := dE E loose wo) hk
  (first | (simp (maxSteps := 1000000) (disch := first | omega | (simp only [AM.DB, List.length_set, List.length_map]; first | done | omega)) only [AM.RB, Nat.reduceAdd, Nat.reduceMul, Nat.reduceEqDiff, reduceCtorEq, b23_GT3]) | skip)
  refine AM.loop_w hp 108 (fun z : Nat × List Int => [(0, pv q), (2, .bool loose), (3, .int .i64 wo), (10, slT h.next i), (12, .int .i64 z.1)])
    (fun z h' => z.1 ≤ i ∧ Lv i (dE E loose wo) k z.1 z.2 ∧ Ow h' 3 1 (slT h.next i) i (z.2.map (.int .i64)) ∧ Fr none' h h') (fun z => i - z.1) (by kernel_rfl) (0, (List.replicate i (-1)).set k 0) ?_ ?_ ?_
  · simp (maxSteps := 1000000) (disch := first | omega | (simp only [AM.DB, List.length_set, List.length_map]; first | done | omega)) only [AM.RB, Nat.reduceAdd, Nat.reduceMul, Nat.reduceEqDiff, reduceCtorEq, b23_GT3]
    first | rfl | skip
  · exact ⟨Nat.zero_le _, lv0, o3, fr03⟩
  rintro ⟨far, out⟩ h4 ρ4 ⟨hf, lv, o4, fr4⟩
  simp only at hf lv o4 ⊢
  have hl4 := fr4.hl hl
  (first | (simp (maxSteps := 1000000) (disch := first | omega | (simp only [AM.DB, List.length_set, List.length_map]; first | done | omega)) only [AM.RB, Nat.reduceAdd, Nat.reduceMul, Nat.reduceEqDiff, reduceCtorEq, b23_GT3]) | skip)
  refine AM.condV_split (fun hft => ?_) (fun hft => ?_)
  case' refine_2 =>
    obtain rfl : far = i := by omega
    (first | (simp (maxSteps := 1000000) (disch := first | omega | (simp only [AM.DB, List.length_set, List.length_map]; first | done | omega)) only [AM.RB, Nat.reduceAdd, Nat.reduceMul, Nat.reduceEqDiff, reduceCtorEq, b23_GT3]) | skip)
    have e := lv.full hk
    rw [← e] at hq
    rw [lv.len] at hq
    exact hq _ _ o4 fr4 fun id t => by have := own id t; omega
  have hfi : far < i := by omega
  (first | (simp (maxSteps := 1000000) (disch := first | omega | (simp only [AM.DB, List.length_set, List.length_map]; first | done | omega)) only [AM.RB, Nat.reduceAdd, Nat.reduceMul, Nat.reduceEqDiff, reduceCtorEq, b23_GT3]) | skip)
  refine AM.loop_w hp 108 (fun z : Nat × Bool × List Int => [(0, pv q), (2, .bool loose), (3, .int .i64 wo), (10, slT h.next i), (12, .int .i64 far), (13, .bool z.2.1), (14, .int .i64 z.1)])
    (fun z h' => z.1 ≤ i ∧ LvB i (dE E loose wo) k far z.2.2 z.1 0 z.2.1 ∧ Ow h' 3 1 (slT h.next i) i (z.2.2.map (.int .i64)) ∧ Fr none' h h') (fun z => i - z.1) (by kernel_rfl) (0, false, out) ?_ ?_ ?_
  · simp (maxSteps := 1000000) (disch := first | omega | (simp only [AM.DB, List.length_set, List.length_map]; first | done | omega)) only [AM.RB, Nat.reduceAdd, Nat.reduceMul, Nat.reduceEqDiff, reduceCtorEq, b23_GT3]
    first | rfl | skip
  · exact ⟨Nat.zero_le _, lv.start, o4, fr4⟩
  rintro ⟨b, more, out2⟩ h5 ρ5 ⟨hb, lb, o5, fr5⟩
  simp only at hb lb o5 ⊢
  have hl5 := fr5.hl hl
  (first | (simp (maxSteps := 1000000) (disch := first | omega | (simp only [AM.DB, List.length_set, List.length_map]; first | done | omega)) only [AM.RB, Nat.reduceAdd, Nat.reduceMul, Nat.reduceEqDiff, reduceCtorEq, b23_GT3]) | skip)
  refine AM.condV_split (fun hbt => ?_) (fun hbt => ?_)
  case' refine_2 =>
    obtain rfl : b = i := by omega
    obtain ⟨nx, dn⟩ := lb.next hk
    cases more with
    | true =>
      (first | (simp (maxSteps := 1000000) (disch := first | omega | (simp only [AM.DB, List.length_set, List.length_map]; first | done | omega)) only [AM.RB, Nat.reduceAdd, Nat.reduceMul, Nat.reduceEqDiff, reduceCtorEq, b23_GT3, AM.wrap_i64]) | skip)
      refine ⟨(far + 1, out2), by simp only; omega, ?_, by simp only; omega, nx, o5, fr5⟩
      simp (maxSteps := 1000000) (disch := first | omega | (simp only [AM.DB, List.length_set, List.length_map]; first | done | omega)) only [AM.RB, Nat.reduceAdd, Nat.reduceMul, Nat.reduceEqDiff, reduceCtorEq, b23_GT3]
      first | rfl | skip
    | false =>
      (first | (simp (maxSteps := 1000000) (disch := first | omega | (simp only [AM.DB, List.length_set, List.length_map]; first | done | omega)) only [AM.RB, Nat.reduceAdd, Nat.reduceMul, Nat.reduceEqDiff, reduceCtorEq, b23_GT3]) | skip)
      have e := nx.dist hk fun y hy d t => by have := dn rfl y hy d t; omega
      rw [← e] at hq
      rw [nx.len] at hq
      exact hq _ _ o5 fr5 fun id t => by have := own id t; omega
  have hbi : b < i := by omega
  by_cases hbf : out2.getD b 0 = far
  case' neg =>
    have d2 : decide (out2.getD b 0 = far) = false := decide_eq_false hbf
    (first | (simp (maxSteps := 1000000) (disch := first | omega | (simp only [AM.DB, List.length_set, List.length_map]; first | done | omega)) only [AM.RB, Nat.reduceAdd, Nat.reduceMul, Nat.reduceEqDiff, reduceCtorEq, b23_GT3, o5.rd.ia el_26, o5.rd.ldi lk_3, Int.toNat_natCast, d2, AM.wrap_i64]) | skip)
    refine ⟨(b + 1, more, out2), by simp only; omega, ?_, by simp only; omega, lb.skip hbf, o5, fr5⟩
    simp (maxSteps := 1000000) (disch := first | omega | (simp only [AM.DB, List.length_set, List.length_map]; first | done | omega)) only [AM.RB, Nat.reduceAdd, Nat.reduceMul, Nat.reduceEqDiff, reduceCtorEq, b23_GT3]
    first | rfl | skip
  have d2 : decide (out2.getD b 0 = far) = true := decide_eq_true hbf
  (first | (simp (maxSteps := 1000000) (disch := first | omega | (simp only [AM.DB, List.length_set, List.length_map]; first | done | omega)) only [AM.RB, Nat.reduceAdd, Nat.reduceMul, Nat.reduceEqDiff, reduceCtorEq, b23_GT3, o5.rd.ia el_26, o5.rd.ldi lk_3, Int.toNat_natCast, d2]) | skip)
  refine AM.loop_w hp 108 (fun z : Nat × Bool × List Int => [(0, pv q), (2, .bool loose), (3, .int .i64 wo), (10, slT h.next i), (12, .int .i64 far), (13, .bool z.2.1), (14, .int .i64 b), (15, .int .i64 z.1)])
    (fun z h' => z.1 ≤ i ∧ LvB i (dE E loose wo) k far z.2.2 b z.1 z.2.1 ∧ z.2.2.getD b 0 = far ∧ Ow h' 3 1 (slT h.next i) i (z.2.2.map (.int .i64)) ∧ Fr none' h h') (fun z => i - z.1) (by kernel_rfl) (0, more, out2) ?_ ?_ ?_
  · simp (maxSteps := 1000000) (disch := first | omega | (simp only [AM.DB, List.length_set, List.length_map]; first | done | omega)) only [AM.RB, Nat.reduceAdd, Nat.reduceMul, Nat.reduceEqDiff, reduceCtorEq, b23_GT3]
    first | rfl | skip
  · exact ⟨Nat.zero_le _, lb, hbf, o5, fr5⟩
  rintro ⟨c, mo, ou⟩ h6 ρ6 ⟨hc, lc, hof, o6, fr6⟩
  simp only at hc lc hof o6 ⊢
  have hl6 := fr6.hl hl
  (first | (simp (maxSteps := 1000000) (disch := first | omega | (simp only [AM.DB, List.length_set, List.length_map]; first | done | omega)) only [AM.RB, Nat.reduceAdd, Nat.reduceMul, Nat.reduceEqDiff, reduceCtorEq, b23_GT3]) | skip)
  refine AM.condV_split (fun hct => ?_) (fun hct => ?_)
  case' refine_2 =>
    obtain rfl : c = i := by omega
    (first | (simp (maxSteps := 1000000) (disch := first | omega | (simp only [AM.DB, List.length_set, List.length_map]; first | done | omega)) only [AM.RB, Nat.reduceAdd, Nat.reduceMul, Nat.reduceEqDiff, reduceCtorEq, b23_GT3, AM.wrap_i64]) | skip)
    refine ⟨(b + 1, mo, ou), by simp only; omega, ?_, by simp only; omega, lc.row, o6, fr6⟩
    simp (maxSteps := 1000000) (disch := first | omega | (simp only [AM.DB, List.length_set, List.length_map]; first | done | omega)) only [AM.RB, Nat.reduceAdd, Nat.reduceMul, Nat.reduceEqDiff, reduceCtorEq, b23_GT3]
    first | rfl | skip
  have hci : c < i := by omega
  have r6 := o6.rd
  have ew : IntKind.i64.wrap ((far : Int) + 1) = far + 1 := AM.wrap_i64 (by omega) (by omega)
  have xx := x.fr fr6 (fun _ _ t => t)
  have gx := xx.g
  have ow := xx.o.rd
  have rb := xx.row b hbi
  have rc := xx.row c hci
  have eb : ((List.range i).map fun j => slT (r j) i)[b]? = some (slT (r b) i) := by rw [List.getElem?_map, List.getElem?_range hbi]; rfl
  have ec : ((List.range i).map fun j => slT (r j) i)[c]? = some (slT (r c) i) := by rw [List.getElem?_map, List.getElem?_range hci]; rfl
  have vb : (rowB i E b)[c]? = some (.bool (E b c)) := by unfold rowB; rw [List.getElem?_map, List.getElem?_range hci]; rfl
  have vc : (rowB i E c)[b]? = some (.bool (E c b)) := by unfold rowB; rw [List.getElem?_map, List.getElem?_range hbi]; rfl
  have he : dE E loose wo b c = ((E b c || (loose && E c b)) && !decide ((c : Int) = wo)) := rfl
  by_cases p0 : ou.getD c 0 < 0
  case' neg =>
    have d0 : decide (ou.getD c 0 < 0) = false := decide_eq_false p0
    (first | (simp (maxSteps := 1000000) (disch := first | omega | (simp only [AM.DB, List.length_set, List.length_map]; first | done | omega)) only [AM.RB, Nat.reduceAdd, Nat.reduceMul, Nat.reduceEqDiff, reduceCtorEq, b23_GT3, r6.ia el_26, r6.ldi lk_3, Int.toNat_natCast, gx, ow.ia el_63, ow.ld lk_66, eb, ec, rb, rc, vb, vc, Nat.mul_one, Nat.zero_add, d0, AM.wrap_i64]) | skip)
    refine ⟨(c + 1, mo, ou), by simp only; omega, ?_, by simp only; omega, lc.pass (.inl (by omega)), hof, o6, fr6⟩
    simp (maxSteps := 1000000) (disch := first | omega | (simp only [AM.DB, List.length_set, List.length_map]; first | done | omega)) only [AM.RB, Nat.reduceAdd, Nat.reduceMul, Nat.reduceEqDiff, reduceCtorEq, b23_GT3]
    first | rfl | skip
  have d0 : decide (ou.getD c 0 < 0) = true := decide_eq_true p0
  by_cases p1 : (c : Int) = wo
  case' pos =>
    have d3 : decide ((c : Int) = wo) = true := decide_eq_true p1
    rw [d3, Bool.not_true, Bool.and_false] at he
    (first | (simp (maxSteps := 1000000) (disch := first | omega | (simp only [AM.DB, List.length_set, List.length_map]; first | done | omega)) only [AM.RB, Nat.reduceAdd, Nat.reduceMul, Nat.reduceEqDiff, reduceCtorEq, b23_GT3, r6.ia el_26, r6.ldi lk_3, Int.toNat_natCast, gx, ow.ia el_63, ow.ld lk_66, eb, ec, rb, rc, vb, vc, Nat.mul_one, Nat.zero_add, d0, d3, AM.wrap_i64]) | skip)
    refine ⟨(c + 1, mo, ou), by simp only; omega, ?_, by simp only; omega, lc.pass (.inr he), hof, o6, fr6⟩
    simp (maxSteps := 1000000) (disch := first | omega | (simp only [AM.DB, List.length_set, List.length_map]; first | done | omega)) only [AM.RB, Nat.reduceAdd, Nat.reduceMul, Nat.reduceEqDiff, reduceCtorEq, b23_GT3]
    first | rfl | skip
  have d3 : decide ((c : Int) = wo) = false := decide_eq_false p1
  rw [d3, Bool.not_false, Bool.and_true] at he
  cases p2 : E b c with
  | true =>
    rw [p2, Bool.true_or] at he
    (first | (simp (maxSteps := 1000000) (disch := first | omega | (simp only [AM.DB, List.length_set, List.length_map]; first | done | omega)) only [AM.RB, Nat.reduceAdd, Nat.reduceMul, Nat.reduceEqDiff, reduceCtorEq, b23_GT3, r6.ia el_26, r6.ldi lk_3, Int.toNat_natCast, gx, ow.ia el_63, ow.ld lk_66, eb, ec, rb, rc, vb, vc, Nat.mul_one, Nat.zero_add, d0, d3, p2, ew]) | skip)
    refine o6.st sz_3 (j := c) (by omega) rfl rfl fun h7 o7 fr7 n7 => ?_
    rw [← List.map_set] at o7
    (first | (simp (maxSteps := 1000000) (disch := first | omega | (simp only [AM.DB, List.length_set, List.length_map]; first | done | omega)) only [AM.RB, Nat.reduceAdd, Nat.reduceMul, Nat.reduceEqDiff, reduceCtorEq, b23_GT3, AM.wrap_i64]) | skip)
    refine ⟨(c + 1, true, ou.set c (far + 1)), by simp only; omega, ?_, by simp only; omega, lc.set hbi hci hof p0 he, ?_, o7, fr6.fresh fr7 (fun id t => by have := own id t; omega)⟩
    · simp (maxSteps := 1000000) (disch := first | omega | (simp only [AM.DB, List.length_set, List.length_map]; first | done | omega)) only [AM.RB, Nat.reduceAdd, Nat.reduceMul, Nat.reduceEqDiff, reduceCtorEq, b23_GT3]
      first | rfl | skip
    · simp only
      rw [getD_set _ _ _ _ (by rw [lc.len]; exact hbi)]
      split
      · rename_i t; subst t; omega
      · exact hof
  | false =>
    rw [p2, Bool.false_or] at he
    cases loose with
    | false =>
      (first | (simp (maxSteps := 1000000) (disch := first | omega | (simp only [AM.DB, List.length_set, List.length_map]; first | done | omega)) only [AM.RB, Nat.reduceAdd, Nat.reduceMul, Nat.reduceEqDiff, reduceCtorEq, b23_GT3, r6.ia el_26, r6.ldi lk_3, Int.toNat_natCast, gx, ow.ia el_63, ow.ld lk_66, eb, ec, rb, rc, vb, vc, Nat.mul_one, Nat.zero_add, d0, d3, p2, AM.wrap_i64]) | skip)
      refine ⟨(c + 1, mo, ou), by simp only; omega, ?_, by simp only; omega, lc.pass (.inr he), hof, o6, fr6⟩
      simp (maxSteps := 1000000) (disch := first | omega | (simp only [AM.DB, List.length_set, List.length_map]; first | done | omega)) only [AM.RB, Nat.reduceAdd, Nat.reduceMul, Nat.reduceEqDiff, reduceCtorEq, b23_GT3]
      first | rfl | skip
    | true =>
      rw [Bool.true_and] at he
      cases p4 : E c b with
      | true =>
        rw [p4] at he
        (first | (simp (maxSteps := 1000000) (disch := first | omega | (simp only [AM.DB, List.length_set, List.length_map]; first | done | omega)) only [AM.RB, Nat.reduceAdd, Nat.reduceMul, Nat.reduceEqDiff, reduceCtorEq, b23_GT3, r6.ia el_26, r6.ldi lk_3, Int.toNat_natCast, gx, ow.ia el_63, ow.ld lk_66, eb, ec, rb, rc, vb, vc, Nat.mul_one, Nat.zero_add, d0, d3, p2, p4, ew]) | skip)
        refine o6.st sz_3 (j := c) (by omega) rfl rfl fun h7 o7 fr7 n7 => ?_
        rw [← List.map_set] at o7
        (first | (simp (maxSteps := 1000000) (disch := first | omega | (simp only [AM.DB, List.length_set, List.length_map]; first | done | omega)) only [AM.RB, Nat.reduceAdd, Nat.reduceMul, Nat.reduceEqDiff, reduceCtorEq, b23_GT3, AM.wrap_i64]) | skip)
        refine ⟨(c + 1, true, ou.set c (far + 1)), by simp only; omega, ?_, by simp only; omega, lc.set hbi hci hof p0 he, ?_, o7, fr6.fresh fr7 (fun id t => by have := own id t; omega)⟩
        · simp (maxSteps := 1000000) (disch := first | omega | (simp only [AM.DB, List.length_set, List.length_map]; first | done | omega)) only [AM.RB, Nat.reduceAdd, Nat.reduceMul, Nat.reduceEqDiff, reduceCtorEq, b23_GT3]
          first | rfl | skip
        · simp only
          rw [getD_set _ _ _ _ (by rw [lc.len]; exact hbi)]
          split
          · rename_i t; subst t; omega
          · exact hof
      | false =>
        rw [p4] at he
        (first | (simp (maxSteps := 1000000) (disch := first | omega | (simp only [AM.DB, List.length_set, List.length_map]; first | done | omega)) only [AM.RB, Nat.reduceAdd, Nat.reduceMul, Nat.reduceEqDiff, reduceCtorEq, b23_GT3, r6.ia el_26, r6.ldi lk_3, Int.toNat_natCast, gx, ow.ia el_63, ow.ld lk_66, eb, ec, rb, rc, vb, vc, Nat.mul_one, Nat.zero_add, d0, d3, p2, p4, AM.wrap_i64]) | skip)
        refine ⟨(c + 1, mo, ou), by simp only; omega, ?_, by simp only; omega, lc.pass (.inr he), hof, o6, fr6⟩
        simp (maxSteps := 1000000) (disch := first | omega | (simp only [AM.DB, List.length_set, List.length_map]; first | done | omega)) only [AM.RB, Nat.reduceAdd, Nat.reduceMul, Nat.reduceEqDiff, reduceCtorEq, b23_GT3]
        first | rfl | skip
end Go.Proofs.Ytnkbdbopiancmaa

namespace Go.Proofs.Ytnkbdbopiancmaa
open Go.AM
set_option maxRecDepth 8000
theorem b26_GT4 : type_of% (And.intro (@AM.bin_add) (And.intro (@AM.bin_geq) (And.intro (@AM.bin_lss) (And.intro (AM.bsW_int bs_51) (And.intro (AM.bsW_nil bs_51) (And.intro (AM.bsW_slice bs_51) (And.intro (AM.bsW_string bs_51) (And.intro (@AM.fa_ptr) (And.intro (@fd_65_0) (And.intro (@AM.iaO_ok) (And.intro (AM.ia_slice el_26) (And.intro (AM.ia_slice el_51) (And.intro (@AM.ldO_agg) (And.intro (@AM.ldO_one) (And.intro (@AM.ld_ptr) (And.intro (AM.len_slice ul_63) (And.intro (@lk_26) (And.intro (@lk_3) (And.intro (@lk_63) (And.intro (AM.mkW_int mk_26) (And.intro (@AM.op_append) (And.intro (@AM.op_binOp) (And.intro (@AM.op_buildSlice) (And.intro (@AM.op_call) (And.intro (@AM.op_fieldAddr) (And.intro (@AM.op_indexAddr) (And.intro (@AM.op_len) (And.intro (@AM.op_load) (And.intro (@AM.op_makeSlice) (And.intro (@AM.op_nilCheck) (And.intro (@AM.op_store) (And.intro (@AM.stO_agg) (And.intro (@AM.stO_bool) (And.intro (@AM.stO_int) (And.intro (@AM.stO_map) (And.intro (@AM.stO_pointer) (And.intro (@AM.stO_slice) (And.intro (@AM.stO_string) (And.intro (@AM.st_ptr) (@sz_3)))))))))))))))))))))))))))))))))))))))) := And.intro (@AM.bin_add) (And.intro (@AM.bin_geq) (And.intro (@AM.bin_lss) (And.intro (AM.bsW_int bs_51) (And.intro (AM.bsW_nil bs_51) (And.intro (AM.bsW_slice bs_51) (And.intro (AM.bsW_string bs_51) (And.intro (@AM.fa_ptr) (And.intro (@fd_65_0) (And.intro (@AM.iaO_ok) (And.intro (AM.ia_slice el_26) (And.intro (AM.ia_slice el_51) (And.intro (@AM.ldO_agg) (And.intro (@AM.ldO_one) (And.intro (@AM.ld_ptr) (And.intro (AM.len_slice ul_63) (And.intro (@lk_26) (And.intro (@lk_3) (And.intro (@lk_63) (And.intro (AM.mkW_int mk_26) (And.intro (@AM.op_append) (And.intro (@AM.op_binOp) (And.intro (@AM.op_buildSlice) (And.intro (@AM.op_call) (And.intro (@AM.op_fieldAddr) (And.intro (@AM.op_indexAddr) (And.intro (@AM.op_len) (And.intro (@AM.op_load) (And.intro (@AM.op_makeSlice) (And.intro (@AM.op_nilCheck) (And.intro (@AM.op_store) (And.intro (@AM.stO_agg) (And.intro (@AM.stO_bool) (And.intro (@AM.stO_int) (And.intro (@AM.stO_map) (And.intro (@AM.stO_pointer) (And.intro (@AM.stO_slice) (And.intro (@AM.stO_string) (And.intro (@AM.st_ptr) (@sz_3)))))))))))))))))))))))))))))))))))))))


/-- Rows of distances, so far. -/
def AllI (h h' : AHeap) (n : Nat) (E : Nat → Nat → Bool) (v : Value) (i : Nat) (A : Nat → Option Addr) (C : Nat → Nat) : Prop :=
  Ow h' 26 1 v i ((List.range i).map fun j => .slice (A j) n (C j)) ∧ (∀ j, j < i → Rd h' 3 1 (.slice (A j) n (C j)) n ((dI n E j).map (.int .i64))) ∧
  (∀ j, j < i → ∀ id, idOf (.slice (A j) n (C j)) id → h.next ≤ id ∧ ¬ idOf v id) ∧ Fr none' h h' ∧ ∀ id, idOf v id → h.next ≤ id
theorem AllI.fr {T : Nat → Prop} {h h1 h2 : AHeap} {n : Nat} {E : Nat → Nat → Bool} {v : Value} {i : Nat} {A : Nat → Option Addr} {C : Nat → Nat} (x : AllI h h1 n E v i A C) (fr : Fr T h1 h2) (hT : ∀ id, T id → h1.next ≤ id) : AllI h h2 n E v i A C := by
  obtain ⟨o, r, d, f, l⟩ := x
  refine ⟨o.fr fr fun id t q => ?_, fun j hj => (r j hj).fr fr fun id t q => ?_, d, f.fresh fr fun id q => ?_, l⟩
  · have := o.lt t; have := hT id q; omega
  · have := (r j hj).lt t; have := hT id q; omega
  · have := hT id q; have := f.next; omega
def StI (n : Nat) (E : Nat → Nat → Bool) (a : Nat) (ou : List Int) (part : Int) : Prop := ou.length = n ∧ (∀ j, j < a → ou.getD j 0 = (strongL n E).getD j 0) ∧ part = (strongS n E a).2
theorem StI.set {n : Nat} {E : Nat → Nat → Bool} {a : Nat} {ou : List Int} {part part' v : Int} (x : StI n E a ou part) (ha : a < n) (hv : v = (strongL n E).getD a 0) (hp : part' = (strongS n E (a + 1)).2) : StI n E (a + 1) (ou.set a v) part' := by
  refine ⟨by rw [List.length_set]; exact x.1, fun j hj => ?_, hp⟩
  rw [getD_set _ _ _ _ (by rw [x.1]; omega)]
  split
  · rename_i t; subst t; exact hv
  · exact x.2.1 j (by omega)
theorem StI.touch {n : Nat} {E : Nat → Nat → Bool} {a : Nat} {ou : List Int} {part v : Int} (x : StI n E a ou part) (ha : a < n) : StI n E a (ou.set a v) part := by
  refine ⟨by rw [List.length_set]; exact x.1, fun j hj => ?_, x.2.2⟩
  rw [getD_set _ _ _ _ (by rw [x.1]; omega), if_neg (by omega)]
  exact x.2.1 j hj
theorem zero_L (n : Nat) : AM.repeated [Value.int .i64 0] n = (List.replicate n (0 : Int)).map (.int .i64) := by rw [AM.repeated_one, List.map_replicate]

set_option maxHeartbeats 8000000 in
theorem rfStrong_w {h : AHeap} {q n : Nat} {E : Nat → Nat → Bool} {S : Nat → Prop} (x : Rt h q n E S) (hn : n ≤ 1024) (hl : h.low ≤ h.next) {Q : VQ}
    (hq : ∀ v h', Ow h' 3 1 v n ((strongL n E).map (.int .i64)) → Fr none' h h' → (∀ id, idOf v id → h.next ≤ id) → Q v h') : W 26 [pv q] h Q := by
  obtain ⟨w, r, xx, _⟩ := id x
  have g := xx.g
  obtain ⟨wa, wc, rfl⟩ := xx.o.form
  refine AM.enter hp (fn := Try.f26) (rs := [.tmp 2]) (nt := 78) (by kernel_rfl) Try.func26 rfl rfl rfl (by kernel_rfl) ?_
  (first | (simp (maxSteps := 1000000) (disch := first | omega | (simp only [AM.DB, List.length_set, List.length_map]; first | done | omega)) only [AM.RB, Nat.reduceAdd, Nat.reduceMul, Nat.reduceEqDiff, reduceCtorEq, b26_GT4, g]) | skip)
  refine AM.loop_w hp 78 (fun z : Nat × Value => [(0, pv q), (3, .int .i64 n), (4, z.2), (5, .int .i64 z.1)])
    (fun z h' => z.1 ≤ n ∧ ∃ A C, AllI h h' n E z.2 z.1 A C) (fun z => n - z.1) (by kernel_rfl) (0, .slice none 0 0) ?_ ?_ ?_
  · simp (maxSteps := 1000000) (disch := first | omega | (simp only [AM.DB, List.length_set, List.length_map]; first | done | omega)) only [AM.RB, Nat.reduceAdd, Nat.reduceMul, Nat.reduceEqDiff, reduceCtorEq, b26_GT4]
    first | rfl | skip
  · exact ⟨Nat.zero_le _, fun _ => none, fun _ => 0, Ow.nil _ _ _, fun j hj => by omega, fun j hj => by omega, Fr.refl _ _, fun _ t => t.elim⟩
  rintro ⟨i, v⟩ h1 ρ ⟨hi, A, C, z1⟩
  simp only at hi z1 ⊢
  have fr1 := z1.2.2.2.1
  have hl1 := fr1.hl hl
  have x1 := x.fr0 fr1
  obtain ⟨va, vc, rfl⟩ := z1.1.form
  (first | (simp (maxSteps := 1000000) (disch := first | omega | (simp only [AM.DB, List.length_set, List.length_map]; first | done | omega)) only [AM.RB, Nat.reduceAdd, Nat.reduceMul, Nat.reduceEqDiff, reduceCtorEq, b26_GT4]) | skip)
  refine AM.condV_split (fun hlt => ?_) (fun hlt => ?_)
  · have hin : i < n := by omega
    (first | (simp (maxSteps := 1000000) (disch := first | omega | (simp only [AM.DB, List.length_set, List.length_map]; first | done | omega)) only [AM.RB, Nat.reduceAdd, Nat.reduceMul, Nat.reduceEqDiff, reduceCtorEq, b26_GT4]) | skip)
    refine rfDist_w x1 hn hl1 i (-1) false fun vD h2 oD fr2 hidD => ?_
    have isd := dI_is (E := E) (show 0 ≤ (i : Int) by omega) (show (i : Int) < n by omega)
    rw [dE_no, isd.len] at oD
    obtain ⟨da, dc, rfl⟩ := oD.form
    have hl2 := fr2.hl hl1
    have z2 := z1.fr fr2 (fun _ t => t.elim)
    (first | (simp (maxSteps := 1000000) (disch := first | omega | (simp only [AM.DB, List.length_set, List.length_map]; first | done | omega)) only [AM.RB, Nat.reduceAdd, Nat.reduceMul, Nat.reduceEqDiff, reduceCtorEq, b26_GT4]) | skip)
    generalize hE_ : AHeap.alloc h2 _ = h3; obtain ⟨g3, fr3, n3, l3⟩ := AM.new_get hE_; clear hE_
    have z3 := z2.fr fr3 (fun _ t => t.elim)
    have hl3 := fr3.hl hl2
    refine AM.appends_w ap_51 ap_51 z3.1 (AM.Rd.whole (n := 1) (c := [.slice da n dc]) g3 rfl) rfl hl3 (AM.fits (by omega) (by omega)) (AM.fits' (by omega)) fun v4 h4 o4 fr4 hid4 => ?_
    have n1 := fr1.next
    have n2 := fr2.next
    (first | (simp (maxSteps := 1000000) (disch := first | omega | (simp only [AM.DB, List.length_set, List.length_map]; first | done | omega)) only [AM.RB, Nat.reduceAdd, Nat.reduceMul, Nat.reduceEqDiff, reduceCtorEq, b26_GT4, AM.wrap_i64]) | skip)
    obtain ⟨o3, r3, d3, f3, l3⟩ := z3
    refine ⟨(i + 1, v4), by simp only; omega, ?_, by simp only; omega, fun j => if j = i then da else A j, fun j => if j = i then dc else C j, ?_, fun j hj => ?_, fun j hj id t => ?_, f3.fresh fr4 l3, fun id t => (hid4 id t).elim (l3 id) (fun t => by omega)⟩
    · simp (maxSteps := 1000000) (disch := first | omega | (simp only [AM.DB, List.length_set, List.length_map]; first | done | omega)) only [AM.RB, Nat.reduceAdd, Nat.reduceMul, Nat.reduceEqDiff, reduceCtorEq, b26_GT4]
      first | rfl | skip
    · simp only
      rw [List.range_succ, List.map_append, List.map_cons, List.map_nil, if_pos rfl, if_pos rfl]
      have e : ((List.range i).map fun j => Value.slice (if j = i then da else A j) n (if j = i then dc else C j)) = (List.range i).map fun j => .slice (A j) n (C j) := List.map_congr_left fun j hj => by
        rw [if_neg (by have := List.mem_range.1 hj; omega), if_neg (by have := List.mem_range.1 hj; omega)]
      rw [e]; exact o4
    · by_cases t : j = i
      · simp only [t, if_true]
        exact (oD.rd.fr0 fr3).fr fr4 fun id p s => by have := hidD id p; have := z1.1.lt s; omega
      · simp only [t, if_false]
        exact (r3 j (by omega)).fr fr4 fun id p s => (d3 j (by omega) id p).2 s
    · by_cases t' : j = i
      · simp only [t', if_true] at t
        have := hidD id t
        have := oD.lt t
        exact ⟨by omega, fun s => (hid4 id s).elim (fun s => by have := z1.1.lt s; omega) (fun s => by omega)⟩
      · simp only [t', if_false] at t
        have := (r3 j (by omega)).lt t
        exact ⟨(d3 j (by omega) id t).1, fun s => (hid4 id s).elim (d3 j (by omega) id t).2 (fun s => by omega)⟩
  obtain rfl : i = n := by omega
  (first | (simp (maxSteps := 1000000) (disch := first | omega | (simp only [AM.DB, List.length_set, List.length_map]; first | done | omega)) only [AM.RB, Nat.reduceAdd, Nat.reduceMul, Nat.reduceEqDiff, reduceCtorEq, b26_GT4]) | skip)
  generalize hE_ : AHeap.alloc h1 _ = h2; obtain ⟨g2, fr2, n2, l2⟩ := AM.new_get hE_; clear hE_
  rw [zero_L] at g2
  have n1 := fr1.next
  have z2 := z1.fr fr2 (fun _ t => t.elim)
  have o2 : Ow h2 3 1 (slT h1.next i) i ((List.replicate i 0).map (.int .i64)) := AM.Ow.whole g2 (by simp) (by omega)
  have own : ∀ id, idOf (slT h1.next i) id → id = h1.next := fun id t => t
  have hl2 := fr2.hl hl1
  have sep : ∀ j, j < i → ∀ id, idOf (.slice (A j) i (C j)) id → id ≠ h1.next := fun j hj id t => by have := (z1.2.1 j hj).lt t; omega
  have sepv : ∀ id, idOf (.slice va i vc) id → id ≠ h1.next := fun id t => by have := z1.1.lt t; omega
  (first | (simp (maxSteps := 1000000) (disch := first | omega | (simp only [AM.DB, List.length_set, List.length_map]; first | done | omega)) only [AM.RB, Nat.reduceAdd, Nat.reduceMul, Nat.reduceEqDiff, reduceCtorEq, b26_GT4]) | skip)
  refine AM.loop_w hp 78 (fun z : Nat × Int × List Int => [(3, .int .i64 i), (4, .slice va i vc), (6, slT h1.next i), (7, .int .i64 z.2.1), (8, .int .i64 z.1)])
    (fun z h' => z.1 ≤ i ∧ StI i E z.1 z.2.2 z.2.1 ∧ Ow h' 3 1 (slT h1.next i) i (z.2.2.map (.int .i64)) ∧ Fr (fun id => id = h1.next) h2 h') (fun z => i - z.1) (by kernel_rfl) (0, 0, List.replicate i 0) ?_ ?_ ?_
  · simp (maxSteps := 1000000) (disch := first | omega | (simp only [AM.DB, List.length_set, List.length_map]; first | done | omega)) only [AM.RB, Nat.reduceAdd, Nat.reduceMul, Nat.reduceEqDiff, reduceCtorEq, b26_GT4]
    first | rfl | skip
  · exact ⟨Nat.zero_le _, ⟨by simp, fun j hj => by omega, rfl⟩, o2, Fr.refl _ _⟩
  rintro ⟨a, part, ou⟩ h3 ρ3 ⟨ha, st, o3, fr3⟩
  simp only at ha st o3 ⊢
  have hl3 := fr3.hl hl2
  (first | (simp (maxSteps := 1000000) (disch := first | omega | (simp only [AM.DB, List.length_set, List.length_map]; first | done | omega)) only [AM.RB, Nat.reduceAdd, Nat.reduceMul, Nat.reduceEqDiff, reduceCtorEq, b26_GT4]) | skip)
  refine AM.condV_split (fun hat => ?_) (fun hat => ?_)
  case' refine_2 =>
    obtain rfl : a = i := by omega
    (first | (simp (maxSteps := 1000000) (disch := first | omega | (simp only [AM.DB, List.length_set, List.length_map]; first | done | omega)) only [AM.RB, Nat.reduceAdd, Nat.reduceMul, Nat.reduceEqDiff, reduceCtorEq, b26_GT4]) | skip)
    have e : ou = strongL a E := by
      refine List.ext_getElem (by rw [st.1, (strongS_len a E a).1]) fun j h1' h2' => ?_
      have := st.2.1 j (by rw [st.1] at h1'; exact h1')
      simpa [List.getD, h1', h2'] using this
    rw [← e] at hq
    exact hq _ _ o3 (fr1.trans ((fr2.fresh fr3 (fun id t => by have t : id = h1.next := t; omega)))) fun id t => by have := own id t; omega
  have hai : a < i := by omega
  (first | (simp (maxSteps := 1000000) (disch := first | omega | (simp only [AM.DB, List.length_set, List.length_map]; first | done | omega)) only [AM.RB, Nat.reduceAdd, Nat.reduceMul, Nat.reduceEqDiff, reduceCtorEq, b26_GT4, o3.ia el_26, Int.toNat_natCast]) | skip)
  refine o3.st sz_3 (j := a) (by omega) rfl rfl fun h4 o4 fr4 n4 => ?_
  rw [← List.map_set] at o4
  have st4 := st.touch (v := -1) hai
  have e4 : (ou.set a (-1)).getD a 0 = -1 := by rw [getD_set _ _ _ _ (by rw [st.1]; exact hai), if_pos rfl]
  have fr24 := fr3.trans (fr4.mono fun id _ t => own id t)
  generalize ou.set a (-1) = ou4 at *
  (first | (simp (maxSteps := 1000000) (disch := first | omega | (simp only [AM.DB, List.length_set, List.length_map]; first | done | omega)) only [AM.RB, Nat.reduceAdd, Nat.reduceMul, Nat.reduceEqDiff, reduceCtorEq, b26_GT4]) | skip)
  refine AM.loop_w hp 78 (fun b : Nat => [(3, .int .i64 i), (4, .slice va i vc), (6, slT h1.next i), (7, .int .i64 part), (8, .int .i64 a), (9, .int .i64 b)])
    (fun b h' => b ≤ a ∧ (∀ c, c < b → ¬ Mut i E a c) ∧ h' = h4) (fun b => a - b) (by kernel_rfl) 0 ?_ ?_ ?_
  · simp (maxSteps := 1000000) (disch := first | omega | (simp only [AM.DB, List.length_set, List.length_map]; first | done | omega)) only [AM.RB, Nat.reduceAdd, Nat.reduceMul, Nat.reduceEqDiff, reduceCtorEq, b26_GT4]
    first | rfl | skip
  · exact ⟨Nat.zero_le _, fun c hc => by omega, rfl⟩
  rintro b h5 ρ5 ⟨hb, nm, rfl⟩
  (first | (simp (maxSteps := 1000000) (disch := first | omega | (simp only [AM.DB, List.length_set, List.length_map]; first | done | omega)) only [AM.RB, Nat.reduceAdd, Nat.reduceMul, Nat.reduceEqDiff, reduceCtorEq, b26_GT4]) | skip)
  refine AM.condV_split (fun hbt => ?_) (fun hbt => ?_)
  case' refine_2 =>
    obtain rfl : b = a := by omega
    have hno : ¬ ∃ c, c < b ∧ Mut i E b c := fun ⟨c, hc, m⟩ => nm c hc m
    obtain ⟨p1, p2⟩ := strong_new hai hno
    have dn : decide (ou4.getD b 0 < 0) = true := decide_eq_true (by omega)
    (first | (simp (maxSteps := 1000000) (disch := first | omega | (simp only [AM.DB, List.length_set, List.length_map]; first | done | omega)) only [AM.RB, Nat.reduceAdd, Nat.reduceMul, Nat.reduceEqDiff, reduceCtorEq, b26_GT4, o4.ia el_26, o4.rd.ldi lk_3, Int.toNat_natCast, dn]) | skip)
    refine o4.st sz_3 (j := b) (by omega) rfl rfl fun h6 o6 fr6 n6 => ?_
    rw [← List.map_set] at o6
    have pp := (strongS_len i E b).2
    have pe := st.2.2
    have ep : part + 1 = (strongS i E (b + 1)).2 := by rw [p1, ← pe]
    have ew : IntKind.i64.wrap (part + 1) = part + 1 := AM.wrap_i64 (by omega) (by omega)
    (first | (simp (maxSteps := 1000000) (disch := first | omega | (simp only [AM.DB, List.length_set, List.length_map]; first | done | omega)) only [AM.RB, Nat.reduceAdd, Nat.reduceMul, Nat.reduceEqDiff, reduceCtorEq, b26_GT4, ew, AM.wrap_i64]) | skip)
    refine ⟨(b + 1, part + 1, ou4.set b part), by simp only; omega, ?_, by simp only; omega, st4.set hai (by rw [p2, pe]) ep, o6, fr24.trans (fr6.mono fun id _ t => own id t)⟩
    simp (maxSteps := 1000000) (disch := first | omega | (simp only [AM.DB, List.length_set, List.length_map]; first | done | omega)) only [AM.RB, Nat.reduceAdd, Nat.reduceMul, Nat.reduceEqDiff, reduceCtorEq, b26_GT4]
    first | rfl | skip
  have hba : b < a := by omega
  have ov := (z2.1.fr fr24 (fun id t e => sepv id t e)).rd
  have ra := (z2.2.1 a hai).fr fr24 (fun id t e => sep a hai id t e)
  have rb := (z2.2.1 b (by omega)).fr fr24 (fun id t e => sep b (by omega) id t e)
  have ea : ((List.range i).map fun j => Value.slice (A j) i (C j))[a]? = some (.slice (A a) i (C a)) := by rw [List.getElem?_map, List.getElem?_range hai]; rfl
  have eb : ((List.range i).map fun j => Value.slice (A j) i (C j))[b]? = some (.slice (A b) i (C b)) := by rw [List.getElem?_map, List.getElem?_range (by omega)]; rfl
  have m1 := dI_reach (E := E) (a := a) (b := b) hai (by omega)
  have m2 := dI_reach (E := E) (a := b) (b := a) (by omega) hai
  have mm : Mut i E a b ↔ 0 ≤ (dI i E a).getD b 0 ∧ 0 ≤ (dI i E b).getD a 0 := by rw [m1, m2]; exact ⟨fun m => ⟨m.1, in_out.1 m.2⟩, fun m => ⟨m.1, in_out.2 m.2⟩⟩
  have kA : ∀ hm : ¬ Mut i E a b, ∀ c, c < b + 1 → ¬ Mut i E a c := fun hm c hc => by
    by_cases t : c = b
    · rw [t]; exact hm
    · exact nm c (by omega)
  by_cases p : 0 ≤ (dI i E a).getD b 0
  case' neg =>
    have d1 : decide (0 ≤ (dI i E a).getD b 0) = false := decide_eq_false p
    (first | (simp (maxSteps := 1000000) (disch := first | omega | (simp only [AM.DB, List.length_set, List.length_map]; first | done | omega)) only [AM.RB, Nat.reduceAdd, Nat.reduceMul, Nat.reduceEqDiff, reduceCtorEq, b26_GT4, ov.ia el_51, ov.ld lk_26, ea, eb, ra.ia el_26, ra.ldi lk_3, rb.ia el_26, rb.ldi lk_3, Int.toNat_natCast, d1, AM.wrap_i64]) | skip)
    refine ⟨b + 1, by omega, ?_, by omega, kA fun m => p (mm.1 m).1⟩
    simp (maxSteps := 1000000) (disch := first | omega | (simp only [AM.DB, List.length_set, List.length_map]; first | done | omega)) only [AM.RB, Nat.reduceAdd, Nat.reduceMul, Nat.reduceEqDiff, reduceCtorEq, b26_GT4]
    first | rfl | skip
  have d1 : decide (0 ≤ (dI i E a).getD b 0) = true := decide_eq_true p
  by_cases p2 : 0 ≤ (dI i E b).getD a 0
  case' neg =>
    have d2 : decide (0 ≤ (dI i E b).getD a 0) = false := decide_eq_false p2
    (first | (simp (maxSteps := 1000000) (disch := first | omega | (simp only [AM.DB, List.length_set, List.length_map]; first | done | omega)) only [AM.RB, Nat.reduceAdd, Nat.reduceMul, Nat.reduceEqDiff, reduceCtorEq, b26_GT4, ov.ia el_51, ov.ld lk_26, ea, eb, ra.ia el_26, ra.ldi lk_3, rb.ia el_26, rb.ldi lk_3, Int.toNat_natCast, d1, d2, AM.wrap_i64]) | skip)
    refine ⟨b + 1, by omega, ?_, by omega, kA fun m => p2 (mm.1 m).2⟩
    simp (maxSteps := 1000000) (disch := first | omega | (simp only [AM.DB, List.length_set, List.length_map]; first | done | omega)) only [AM.RB, Nat.reduceAdd, Nat.reduceMul, Nat.reduceEqDiff, reduceCtorEq, b26_GT4]
    first | rfl | skip
  have d2 : decide (0 ≤ (dI i E b).getD a 0) = true := decide_eq_true p2
  have hm := mm.2 ⟨p, p2⟩
  have se := strong_eq hai (show b < i by omega) hm
  have sp := strong_pos (E := E) hai
  have ob := st4.2.1 b hba
  (first | (simp (maxSteps := 1000000) (disch := first | omega | (simp only [AM.DB, List.length_set, List.length_map]; first | done | omega)) only [AM.RB, Nat.reduceAdd, Nat.reduceMul, Nat.reduceEqDiff, reduceCtorEq, b26_GT4, ov.ia el_51, ov.ld lk_26, ea, eb, ra.ia el_26, ra.ldi lk_3, rb.ia el_26, rb.ldi lk_3, o4.ia el_26, o4.rd.ldi lk_3, Int.toNat_natCast, d1, d2]) | skip)
  refine o4.st sz_3 (j := a) (by omega) rfl rfl fun h6 o6 fr6 n6 => ?_
  rw [← List.map_set] at o6
  have e6 : (ou4.set a (ou4.getD b 0)).getD a 0 = ou4.getD b 0 := by rw [getD_set _ _ _ _ (by rw [st4.1]; exact hai), if_pos rfl]
  have d6 : decide (ou4.getD b 0 < 0) = false := decide_eq_false (by omega)
  (first | (simp (maxSteps := 1000000) (disch := first | omega | (simp only [AM.DB, List.length_set, List.length_map]; first | done | omega)) only [AM.RB, Nat.reduceAdd, Nat.reduceMul, Nat.reduceEqDiff, reduceCtorEq, b26_GT4, o6.ia el_26, o6.rd.ldi lk_3, Int.toNat_natCast, e6, d6, AM.wrap_i64]) | skip)
  refine ⟨(a + 1, part, ou4.set a (ou4.getD b 0)), by simp only; omega, ?_, by simp only; omega, st4.set hai (by rw [ob, se]) (by rw [strong_old hai ⟨b, hba, hm⟩]; exact st.2.2), o6, fr24.trans (fr6.mono fun id _ t => own id t)⟩
  simp (maxSteps := 1000000) (disch := first | omega | (simp only [AM.DB, List.length_set, List.length_map]; first | done | omega)) only [AM.RB, Nat.reduceAdd, Nat.reduceMul, Nat.reduceEqDiff, reduceCtorEq, b26_GT4]
  first | rfl | skip
end Go.Proofs.Ytnkbdbopiancmaa

namespace Go.Proofs.Ytnkbdbopiancmaa
open Go.AM
set_option maxRecDepth 8000
theorem b27_GT5 : type_of% (And.intro (@AM.bin_add) (And.intro (@AM.bin_eql) (And.intro (@AM.bin_lss) (And.intro (AM.bsW_int bs_26) (And.intro (AM.bsW_nil bs_26) (And.intro (AM.bsW_slice bs_26) (And.intro (AM.bsW_string bs_26) (And.intro (@AM.fa_ptr) (And.intro (@fd_65_0) (And.intro (@AM.iaO_ok) (And.intro (AM.ia_slice el_26) (And.intro (@AM.ldO_agg) (And.intro (@AM.ldO_one) (And.intro (@AM.ld_ptr) (And.intro (AM.len_slice ul_26) (And.intro (AM.len_slice ul_63) (And.intro (@lk_3) (And.intro (@lk_63) (And.intro (@AM.op_append) (And.intro (@AM.op_binOp) (And.intro (@AM.op_buildSlice) (And.intro (@AM.op_call) (And.intro (@AM.op_fieldAddr) (And.intro (@AM.op_indexAddr) (And.intro (@AM.op_len) (And.intro (@AM.op_load) (@AM.op_nilCheck))))))))))))))))))))))))))) := And.intro (@AM.bin_add) (And.intro (@AM.bin_eql) (And.intro (@AM.bin_lss) (And.intro (AM.bsW_int bs_26) (And.intro (AM.bsW_nil bs_26) (And.intro (AM.bsW_slice bs_26) (And.intro (AM.bsW_string bs_26) (And.intro (@AM.fa_ptr) (And.intro (@fd_65_0) (And.intro (@AM.iaO_ok) (And.intro (AM.ia_slice el_26) (And.intro (@AM.ldO_agg) (And.intro (@AM.ldO_one) (And.intro (@AM.ld_ptr) (And.intro (AM.len_slice ul_26) (And.intro (AM.len_slice ul_63) (And.intro (@lk_3) (And.intro (@lk_63) (And.intro (@AM.op_append) (And.intro (@AM.op_binOp) (And.intro (@AM.op_buildSlice) (And.intro (@AM.op_call) (And.intro (@AM.op_fieldAddr) (And.intro (@AM.op_indexAddr) (And.intro (@AM.op_len) (And.intro (@AM.op_load) (@AM.op_nilCheck))))))))))))))))))))))))))


def fallB (D R : List Int) (a : Nat) : Nat → Bool
  | 0 => false
  | k + 1 => fallB D R a k || (!decide (k = a) && !decide (D.getD k 0 < 0) && decide (R.getD k 0 < 0))
theorem fallB_iff (D R : List Int) (a : Nat) : ∀ k, fallB D R a k = true ↔ ∃ x, x < k ∧ x ≠ a ∧ 0 ≤ D.getD x 0 ∧ R.getD x 0 < 0
  | 0 => ⟨fun h => (by cases h), fun ⟨x, hx, _⟩ => by omega⟩
  | k + 1 => by
    rw [fallB, Bool.or_eq_true, fallB_iff D R a k]
    simp only [Bool.and_eq_true, Bool.not_eq_true', decide_eq_false_iff_not, decide_eq_true_iff]
    constructor
    · rintro (⟨x, h1, h2, h3, h4⟩ | ⟨⟨h1, h2⟩, h3⟩)
      · exact ⟨x, by omega, h2, h3, h4⟩
      · exact ⟨k, by omega, h1, by omega, h3⟩
    · rintro ⟨x, h1, h2, h3, h4⟩
      by_cases e : x = k
      · subst e; exact .inr ⟨⟨h2, by omega⟩, h4⟩
      · exact .inl ⟨x, by omega, h2, h3, h4⟩
theorem fallB_no {D R : List Int} {a : Nat} : ∀ {k}, (∀ x, x < k → x ≠ a → D.getD x 0 < 0) → fallB D R a k = false := by
  intro k h
  rw [← Bool.not_eq_true, fallB_iff]
  rintro ⟨x, h1, h2, h3, _⟩
  have := h x h1 h2; omega
theorem mem_R {n : Nat} {E : Nat → Nat → Bool} {a x : Nat} (ha : a < n) : (x : Int) ∈ reachP (dI n (uE E) a) (dI n (uE E) a).length ↔ x < n ∧ 0 ≤ (dI n (uE E) a).getD x 0 := by
  rw [mem_reachP ha]
  constructor
  · rintro ⟨h, r⟩
    exact ⟨by omega, (dI_reach ha (by omega)).2 r⟩
  · rintro ⟨h, r⟩
    exact ⟨by omega, (dI_reach ha h).1 r⟩
/-- What the document's loop knows. -/
def JoI (n : Nat) (E : Nat → Nat → Bool) (a : Nat) (b : Nat) (first : Int) (falls : Bool) (R : List Int) : Prop :=
  (first = -1 ∧ falls = false ∧ ∀ x, x < b → x ≠ a → (dI n (uE E) a).getD x 0 < 0) ∨
  ∃ f : Nat, f < n ∧ f ≠ a ∧ first = f ∧ 0 ≤ (dI n (uE E) a).getD f 0 ∧ R = dI n (dE E true a) f ∧ falls = fallB (dI n (uE E) a) R a b
theorem JoI.done {n : Nat} {E : Nat → Nat → Bool} {a : Nat} {first : Int} {falls : Bool} {R : List Int} (ha : a < n) (x : JoI n E a n first falls R) : falls = jointP n E a := by
  rcases x with ⟨_, rfl, h⟩ | ⟨f, h1, h2, _, h4, rfl, rfl⟩
  · symm
    refine joint_none ha fun x hx => ?_
    obtain ⟨⟨d0, d1⟩, _⟩ := (mem_reachP ha).1 hx
    obtain ⟨m, rfl⟩ := Int.eq_ofNat_of_zero_le d0
    have := ((mem_R ha).1 hx).2
    by_cases e : m = a
    · rw [e]
    · have := h m (by omega) e; omega
  · rw [Bool.eq_iff_iff, fallB_iff, joint_apart ha ((mem_R ha).2 ⟨h1, h4⟩) (show (f : Int) ≠ a by omega)]
    constructor
    · rintro ⟨x, q1, q2, q3, q4⟩
      refine ⟨x, (mem_R ha).2 ⟨q1, q3⟩, by omega, ?_⟩
      rw [Int.toNat_natCast]
      exact (dE_neg h1 h2 q1).1 q4
    · rintro ⟨x, hx, nx, neg⟩
      obtain ⟨⟨d0, d1⟩, _⟩ := (mem_reachP ha).1 hx
      obtain ⟨m, rfl⟩ := Int.eq_ofNat_of_zero_le d0
      obtain ⟨q1, q3⟩ := (mem_R ha).1 hx
      rw [Int.toNat_natCast] at neg
      exact ⟨m, q1, by omega, q3, (dE_neg h1 h2 q1).2 neg⟩

set_option maxHeartbeats 8000000 in
theorem rfJoints_w {h : AHeap} {q n : Nat} {E : Nat → Nat → Bool} {S : Nat → Prop} (x : Rt h q n E S) (hn : n ≤ 1024) (hl : h.low ≤ h.next) {Q : VQ}
    (hq : ∀ v h', Ow h' 3 1 v (jointsL n E n).length ((jointsL n E n).map (.int .i64)) → Fr none' h h' → (∀ id, idOf v id → h.next ≤ id) → Q v h') : W 27 [pv q] h Q := by
  refine AM.enter hp (fn := Try.f27) (rs := [.tmp 2]) (nt := 56) (by kernel_rfl) Try.func27 rfl rfl rfl (by kernel_rfl) ?_
  (first | (simp (maxSteps := 1000000) (disch := first | omega | (simp only [AM.DB, List.length_set, List.length_map]; first | done | omega)) only [AM.RB, Nat.reduceAdd, Nat.reduceMul, Nat.reduceEqDiff, reduceCtorEq, b27_GT5]) | skip)
  refine AM.loop_w hp 56 (fun z : Nat × Value => [(0, pv q), (3, z.2), (4, .int .i64 z.1)])
    (fun z h' => z.1 ≤ n ∧ Ow h' 3 1 z.2 (jointsL n E z.1).length ((jointsL n E z.1).map (.int .i64)) ∧ Fr none' h h' ∧ ∀ id, idOf z.2 id → h.next ≤ id) (fun z => n - z.1) (by kernel_rfl) (0, .slice none 0 0) ?_ ?_ ?_
  · simp (maxSteps := 1000000) (disch := first | omega | (simp only [AM.DB, List.length_set, List.length_map]; first | done | omega)) only [AM.RB, Nat.reduceAdd, Nat.reduceMul, Nat.reduceEqDiff, reduceCtorEq, b27_GT5]
    first | rfl | skip
  · exact ⟨Nat.zero_le _, Ow.nil _ _ _, Fr.refl _ _, fun _ t => t.elim⟩
  rintro ⟨a, v⟩ h1 ρ ⟨ha, o1, fr1, hid1⟩
  simp only at ha o1 hid1
  obtain ⟨va, vc, rfl⟩ := o1.form
  have hl1 := fr1.hl hl
  have x1 := x.fr0 fr1
  have rs := jointsL_succ n E a
  have rl := jointsL_len n E a
  obtain ⟨w, r, xx, _⟩ := id x1
  have g := xx.g
  obtain ⟨wa, wc, rfl⟩ := xx.o.form
  (first | (simp (maxSteps := 1000000) (disch := first | omega | (simp only [AM.DB, List.length_set, List.length_map]; first | done | omega)) only [AM.RB, Nat.reduceAdd, Nat.reduceMul, Nat.reduceEqDiff, reduceCtorEq, b27_GT5, g]) | skip)
  refine AM.condV_split (fun hlt => ?_) (fun hlt => ?_)
  case' refine_2 =>
    obtain rfl : a = n := by omega
    (first | (simp (maxSteps := 1000000) (disch := first | omega | (simp only [AM.DB, List.length_set, List.length_map]; first | done | omega)) only [AM.RB, Nat.reduceAdd, Nat.reduceMul, Nat.reduceEqDiff, reduceCtorEq, b27_GT5]) | skip)
    exact hq _ _ o1 fr1 hid1
  have han : a < n := by omega
  (first | (simp (maxSteps := 1000000) (disch := first | omega | (simp only [AM.DB, List.length_set, List.length_map]; first | done | omega)) only [AM.RB, Nat.reduceAdd, Nat.reduceMul, Nat.reduceEqDiff, reduceCtorEq, b27_GT5]) | skip)
  refine rfDist_w x1 hn hl1 a (-1) true fun vD h2 oD fr2 hidD => ?_
  rw [dE_u] at oD
  have lD := (dI_is (E := uE E) (show 0 ≤ (a : Int) by omega) (show (a : Int) < n by omega)).len
  rw [lD] at oD
  obtain ⟨da, dc, rfl⟩ := oD.form
  have hl2 := fr2.hl hl1
  have x2 := x1.fr0 fr2
  (first | (simp (maxSteps := 1000000) (disch := first | omega | (simp only [AM.DB, List.length_set, List.length_map]; first | done | omega)) only [AM.RB, Nat.reduceAdd, Nat.reduceMul, Nat.reduceEqDiff, reduceCtorEq, b27_GT5]) | skip)
  refine AM.loop_w hp 56 (fun z : Nat × Int × Bool × Value => [(0, pv q), (3, .slice va (jointsL n E a).length vc), (4, .int .i64 a), (5, .slice da n dc), (6, .int .i64 z.2.1), (7, .bool z.2.2.1), (8, z.2.2.2), (9, .int .i64 z.1)])
    (fun z h' => z.1 ≤ n ∧ Fr none' h2 h' ∧ ∃ R : List Int, JoI n E a z.1 z.2.1 z.2.2.1 R ∧ (z.2.1 ≠ -1 → Ow h' 3 1 z.2.2.2 n (R.map (.int .i64)))) (fun z => n - z.1) (by kernel_rfl) (0, -1, false, .slice none 0 0) ?_ ?_ ?_
  · simp (maxSteps := 1000000) (disch := first | omega | (simp only [AM.DB, List.length_set, List.length_map]; first | done | omega)) only [AM.RB, Nat.reduceAdd, Nat.reduceMul, Nat.reduceEqDiff, reduceCtorEq, b27_GT5]
    first | rfl | skip
  · exact ⟨Nat.zero_le _, Fr.refl _ _, [], .inl ⟨rfl, rfl, fun x hx => by omega⟩, fun t => absurd rfl t⟩
  rintro ⟨b, first, falls, rest⟩ h3 ρ3 ⟨hb, fr3, R, jo, oR⟩
  simp only at hb jo oR ⊢
  have hl3 := fr3.hl hl2
  have x3 := x2.fr0 fr3
  have rD := (oD.fr0 fr3).rd
  (first | (simp (maxSteps := 1000000) (disch := first | omega | (simp only [AM.DB, List.length_set, List.length_map]; first | done | omega)) only [AM.RB, Nat.reduceAdd, Nat.reduceMul, Nat.reduceEqDiff, reduceCtorEq, b27_GT5]) | skip)
  refine AM.condV_split (fun hbt => ?_) (fun hbt => ?_)
  case' refine_2 =>
    obtain rfl : b = n := by omega
    have fe := jo.done han
    cases falls with
    | true =>
      rw [← fe, if_pos rfl] at rs
      (first | (simp (maxSteps := 1000000) (disch := first | omega | (simp only [AM.DB, List.length_set, List.length_map]; first | done | omega)) only [AM.RB, Nat.reduceAdd, Nat.reduceMul, Nat.reduceEqDiff, reduceCtorEq, b27_GT5]) | skip)
      generalize hE_ : AHeap.alloc h3 _ = h4; obtain ⟨g4, fr4, n4, l4⟩ := AM.new_get hE_; clear hE_
      have hl4 := fr4.hl hl3
      refine AM.appends_w ap_26 ap_26 (o1.fr0 ((fr2.trans fr3).trans fr4)) (AM.Rd.whole (n := 1) (c := [.int .i64 (a : Int)]) g4 rfl) rfl hl4 (AM.fits (by omega) (by omega)) (AM.fits' (by omega)) fun v5 h5 o5 fr5 hid5 => ?_
      have m1 := fr1.next
      have m2 := fr2.next
      have m3 := fr3.next
      (first | (simp (maxSteps := 1000000) (disch := first | omega | (simp only [AM.DB, List.length_set, List.length_map]; first | done | omega)) only [AM.RB, Nat.reduceAdd, Nat.reduceMul, Nat.reduceEqDiff, reduceCtorEq, b27_GT5, AM.wrap_i64]) | skip)
      refine ⟨(a + 1, v5), by simp only; omega, ?_, by simp only; omega, ?_, (((fr1.trans fr2).trans fr3).trans fr4).fresh fr5 (fun id t => hid1 id t), fun id t => (hid5 id t).elim (hid1 id) (fun t => by omega)⟩
      · simp (maxSteps := 1000000) (disch := first | omega | (simp only [AM.DB, List.length_set, List.length_map]; first | done | omega)) only [AM.RB, Nat.reduceAdd, Nat.reduceMul, Nat.reduceEqDiff, reduceCtorEq, b27_GT5]
        first | rfl | skip
      · simp only
        rw [rs]
        simpa using o5
    | false =>
      rw [← fe] at rs
      simp only [Bool.false_eq_true, if_false, List.append_nil] at rs
      (first | (simp (maxSteps := 1000000) (disch := first | omega | (simp only [AM.DB, List.length_set, List.length_map]; first | done | omega)) only [AM.RB, Nat.reduceAdd, Nat.reduceMul, Nat.reduceEqDiff, reduceCtorEq, b27_GT5, AM.wrap_i64]) | skip)
      refine ⟨(a + 1, _), by simp only; omega, ?_, by simp only; omega, ?_, (fr1.trans fr2).trans fr3, hid1⟩
      · simp (maxSteps := 1000000) (disch := first | omega | (simp only [AM.DB, List.length_set, List.length_map]; first | done | omega)) only [AM.RB, Nat.reduceAdd, Nat.reduceMul, Nat.reduceEqDiff, reduceCtorEq, b27_GT5]
        first | rfl | skip
      · simp only
        rw [rs]; exact o1.fr0 (fr2.trans fr3)
  have hbn : b < n := by omega
  by_cases ba : b = a
  case' pos =>
    have d1 : decide ((b : Int) = a) = true := decide_eq_true (by omega)
    (first | (simp (maxSteps := 1000000) (disch := first | omega | (simp only [AM.DB, List.length_set, List.length_map]; first | done | omega)) only [AM.RB, Nat.reduceAdd, Nat.reduceMul, Nat.reduceEqDiff, reduceCtorEq, b27_GT5, d1, AM.wrap_i64]) | skip)
    refine ⟨(b + 1, first, falls, rest), by simp only; omega, ?_, by simp only; omega, fr3, R, ?_, oR⟩
    · simp (maxSteps := 1000000) (disch := first | omega | (simp only [AM.DB, List.length_set, List.length_map]; first | done | omega)) only [AM.RB, Nat.reduceAdd, Nat.reduceMul, Nat.reduceEqDiff, reduceCtorEq, b27_GT5]
      first | rfl | skip
    · simp only
      rcases jo with ⟨e1, e2, e3⟩ | ⟨f, e1, e2, e3, e4, e5, e6⟩
      · refine .inl ⟨e1, e2, fun x hx nx => ?_⟩
        exact e3 x (by omega) nx
      · exact .inr ⟨f, e1, e2, e3, e4, e5, by rw [e6, fallB, decide_eq_true ba]; simp⟩
  have d1 : decide ((b : Int) = a) = false := decide_eq_false (by omega)
  have db : decide (b = a) = false := decide_eq_false ba
  by_cases bd : (dI n (uE E) a).getD b 0 < 0
  case' pos =>
    have d2 : decide ((dI n (uE E) a).getD b 0 < 0) = true := decide_eq_true bd
    (first | (simp (maxSteps := 1000000) (disch := first | omega | (simp only [AM.DB, List.length_set, List.length_map]; first | done | omega)) only [AM.RB, Nat.reduceAdd, Nat.reduceMul, Nat.reduceEqDiff, reduceCtorEq, b27_GT5, rD.ia el_26, rD.ldi lk_3, Int.toNat_natCast, d1, d2, AM.wrap_i64]) | skip)
    refine ⟨(b + 1, first, falls, rest), by simp only; omega, ?_, by simp only; omega, fr3, R, ?_, oR⟩
    · simp (maxSteps := 1000000) (disch := first | omega | (simp only [AM.DB, List.length_set, List.length_map]; first | done | omega)) only [AM.RB, Nat.reduceAdd, Nat.reduceMul, Nat.reduceEqDiff, reduceCtorEq, b27_GT5]
      first | rfl | skip
    · simp only
      rcases jo with ⟨e1, e2, e3⟩ | ⟨f, e1, e2, e3, e4, e5, e6⟩
      · refine .inl ⟨e1, e2, fun x hx nx => ?_⟩
        by_cases t : x = b
        · subst t; exact bd
        · exact e3 x (by omega) nx
      · exact .inr ⟨f, e1, e2, e3, e4, e5, by rw [e6, fallB, d2]; simp⟩
  have d2 : decide ((dI n (uE E) a).getD b 0 < 0) = false := decide_eq_false bd
  rcases jo with ⟨rfl, rfl, e3⟩ | ⟨f, e1, e2, rfl, e4, rfl, e6⟩
  · have dm : decide ((-1 : Int) < 0) = true := rfl
    (first | (simp (maxSteps := 1000000) (disch := first | omega | (simp only [AM.DB, List.length_set, List.length_map]; first | done | omega)) only [AM.RB, Nat.reduceAdd, Nat.reduceMul, Nat.reduceEqDiff, reduceCtorEq, b27_GT5, rD.ia el_26, rD.ldi lk_3, Int.toNat_natCast, d1, d2, dm]) | skip)
    refine rfDist_w x3 hn hl3 b a true fun vR h4 oR4 fr4 hidR => ?_
    have isr := dI_is (E := dE E true a) (show 0 ≤ (b : Int) by omega) (show (b : Int) < n by omega)
    rw [isr.len] at oR4
    obtain ⟨ra, rc, rfl⟩ := oR4.form
    have z0 := isr.zero' (show 0 ≤ (b : Int) by omega) (show (b : Int) < n by omega)
    rw [Int.toNat_natCast] at z0
    have rR := oR4.rd
    have d3 : decide ((dI n (dE E true a) b).getD b 0 < 0) = false := by rw [z0]; rfl
    (first | (simp (maxSteps := 1000000) (disch := first | omega | (simp only [AM.DB, List.length_set, List.length_map]; first | done | omega)) only [AM.RB, Nat.reduceAdd, Nat.reduceMul, Nat.reduceEqDiff, reduceCtorEq, b27_GT5, rR.ia el_26, rR.ldi lk_3, Int.toNat_natCast, d3, AM.wrap_i64]) | skip)
    refine ⟨(b + 1, b, false, _), by simp only; omega, ?_, by simp only; omega, fr3.trans fr4, dI n (dE E true a) b, .inr ⟨b, hbn, ba, rfl, by omega, rfl, ?_⟩, fun _ => oR4⟩
    · simp (maxSteps := 1000000) (disch := first | omega | (simp only [AM.DB, List.length_set, List.length_map]; first | done | omega)) only [AM.RB, Nat.reduceAdd, Nat.reduceMul, Nat.reduceEqDiff, reduceCtorEq, b27_GT5]
      first | rfl | skip
    · simp only
      rw [fallB, fallB_no e3, d3]; simp
  · have oR' := oR (by omega)
    obtain ⟨ra, rc, rfl⟩ := oR'.form
    have rR := oR'.rd
    have dm : decide ((f : Int) < 0) = false := decide_eq_false (by omega)
    by_cases rb : (dI n (dE E true a) f).getD b 0 < 0
    · have d3 : decide ((dI n (dE E true a) f).getD b 0 < 0) = true := decide_eq_true rb
      (first | (simp (maxSteps := 1000000) (disch := first | omega | (simp only [AM.DB, List.length_set, List.length_map]; first | done | omega)) only [AM.RB, Nat.reduceAdd, Nat.reduceMul, Nat.reduceEqDiff, reduceCtorEq, b27_GT5, rD.ia el_26, rD.ldi lk_3, rR.ia el_26, rR.ldi lk_3, Int.toNat_natCast, d1, d2, dm, d3, AM.wrap_i64]) | skip)
      refine ⟨(b + 1, f, true, _), by simp only; omega, ?_, by simp only; omega, fr3, dI n (dE E true a) f, .inr ⟨f, e1, e2, rfl, e4, rfl, ?_⟩, fun _ => oR'⟩
      · simp (maxSteps := 1000000) (disch := first | omega | (simp only [AM.DB, List.length_set, List.length_map]; first | done | omega)) only [AM.RB, Nat.reduceAdd, Nat.reduceMul, Nat.reduceEqDiff, reduceCtorEq, b27_GT5]
        first | rfl | skip
      · simp only
        rw [fallB, db, d2, d3]; simp
    · have d3 : decide ((dI n (dE E true a) f).getD b 0 < 0) = false := decide_eq_false rb
      (first | (simp (maxSteps := 1000000) (disch := first | omega | (simp only [AM.DB, List.length_set, List.length_map]; first | done | omega)) only [AM.RB, Nat.reduceAdd, Nat.reduceMul, Nat.reduceEqDiff, reduceCtorEq, b27_GT5, rD.ia el_26, rD.ldi lk_3, rR.ia el_26, rR.ldi lk_3, Int.toNat_natCast, d1, d2, dm, d3, AM.wrap_i64]) | skip)
      refine ⟨(b + 1, f, falls, _), by simp only; omega, ?_, by simp only; omega, fr3, dI n (dE E true a) f, .inr ⟨f, e1, e2, rfl, e4, rfl, ?_⟩, fun _ => oR'⟩
      · simp (maxSteps := 1000000) (disch := first | omega | (simp only [AM.DB, List.length_set, List.length_map]; first | done | omega)) only [AM.RB, Nat.reduceAdd, Nat.reduceMul, Nat.reduceEqDiff, reduceCtorEq, b27_GT5]
        first | rfl | skip
      · simp only
        rw [fallB, d3, ← e6]; simp
end Go.Proofs.Ytnkbdbopiancmaa
