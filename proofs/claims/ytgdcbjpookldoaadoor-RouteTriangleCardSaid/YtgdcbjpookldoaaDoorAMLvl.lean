/- A text of this claim: the abstract machine. -/
import Derived.Test.YtgdcbjpookldoaaDoorAMBfs3
set_option linter.unusedSimpArgs false
set_option linter.unusedVariables false
namespace Go.AM

/-! ### Levels: distances over lists of neighbours, told round by round; s: what stands for 0 (s - 1: not reached yet) -/
/-- Between rounds. -/
structure LQ (n : Nat) (N : Int → List Int) (a s : Int) (far : Nat) (out : List Int) : Prop where
  len : out.length = n
  ok : ∀ x : Nat, x < n → s ≤ out.getD x 0 → isD N a x (out.getD x 0 - s).toNat ∧ out.getD x 0 - s ≤ far
  lo : ∀ x : Nat, x < n → ∀ d, d ≤ far → isD N a x d → out.getD x 0 = d + s
  no : ∀ x : Nat, x < n → out.getD x 0 < s → out.getD x 0 = s - 1
/-- Within a round: cells below b are done, of b those in P. -/
structure LQB (n : Nat) (N : Int → List Int) (a s : Int) (far : Nat) (out : List Int) (b : Nat) (P : List Int) (more : Bool) : Prop where
  len : out.length = n
  ok : ∀ x : Nat, x < n → s ≤ out.getD x 0 → isD N a x (out.getD x 0 - s).toNat ∧ out.getD x 0 - s ≤ far + 1
  lo : ∀ x : Nat, x < n → ∀ d, d ≤ far → isD N a x d → out.getD x 0 = d + s
  no : ∀ x : Nat, x < n → out.getD x 0 < s → out.getD x 0 = s - 1
  dn : ∀ x : Nat, x < n → x < b → out.getD x 0 = far + s → ∀ y ∈ N x, s ≤ out.getD y.toNat 0
  cu : b < n → out.getD b 0 = far + s → ∀ y ∈ P, s ≤ out.getD y.toNat 0
  mo : more = true ↔ ∃ x : Nat, x < n ∧ out.getD x 0 = far + 1 + s
theorem LQ.init {n : Nat} {N : Int → List Int} {a s : Int} (ha : 0 ≤ a ∧ a < n) : LQ n N a s 0 ((List.replicate n (s - 1)).set a.toNat s) := by
  obtain ⟨k, rfl⟩ := Int.eq_ofNat_of_zero_le ha.1
  have hk : k < n := by omega
  have g : ∀ x : Nat, x < n → ((List.replicate n (s - 1)).set (k : Int).toNat s).getD x 0 = if k = x then s else s - 1 := fun x hx => by
    rw [Int.toNat_natCast, getD_set _ _ _ _ (by simpa using hx)]
    split
    · rfl
    · simp [List.getD, hx]
  have z : isD N (k : Int) k 0 := ⟨.zero, fun d hd => by omega⟩
  refine ⟨by simp, fun x hx h => ?_, fun x hx d hd h => ?_, fun x hx h => ?_⟩
  · rw [g x hx] at h ⊢
    by_cases q : k = x
    · subst q; rw [if_pos rfl, Int.sub_self]; exact ⟨z, by omega⟩
    · rw [if_neg q] at h; omega
  · obtain rfl : d = 0 := by omega
    have hw := h.1
    have : (x : Int) = k := by
      generalize hz : (0 : Nat) = zz at hw
      cases hw with
      | zero => rfl
      | step => omega
    rw [g x hx, if_pos (by omega)]; simp
  · rw [g x hx] at h ⊢
    split
    · rename_i q; rw [if_pos q] at h; omega
    · rfl
theorem LQ.start {n : Nat} {N : Int → List Int} {a s : Int} {far : Nat} {out : List Int} (x : LQ n N a s far out) : LQB n N a s far out 0 [] false :=
  ⟨x.len, fun y hy h => ⟨(x.ok y hy h).1, by have := (x.ok y hy h).2; omega⟩, x.lo, x.no, fun y _ h => by omega, fun _ _ y h => (by cases h), ⟨fun h => (by cases h), fun ⟨y, hy, h⟩ => by exfalso; have := (x.ok y hy (by omega)).2; omega⟩⟩
theorem LQB.skip {n : Nat} {N : Int → List Int} {a s : Int} {far b : Nat} {P : List Int} {out : List Int} {more : Bool} (x : LQB n N a s far out b P more) (h : out.getD b 0 ≠ far + s) : LQB n N a s far out (b + 1) [] more :=
  ⟨x.len, x.ok, x.lo, x.no, fun y hy q q2 => by
    by_cases t : y = b
    · subst t; exact absurd q2 h
    · exact x.dn y hy (by omega) q2, fun _ _ y q => (by cases q), x.mo⟩
theorem LQB.row {n : Nat} {N : Int → List Int} {a s : Int} {far b : Nat} {P : List Int} {out : List Int} {more : Bool} (x : LQB n N a s far out b P more) (hP : ∀ y ∈ N b, y ∈ P) : LQB n N a s far out (b + 1) [] more :=
  ⟨x.len, x.ok, x.lo, x.no, fun y hy q q2 => by
    by_cases t : y = b
    · subst t; exact fun z hz => x.cu hy q2 z (hP z hz)
    · exact x.dn y hy (by omega) q2, fun _ _ y q => (by cases q), x.mo⟩
theorem LQB.same {n : Nat} {N : Int → List Int} {a s : Int} {far b : Nat} {P P' : List Int} {out : List Int} {more : Bool} (x : LQB n N a s far out b P more) (h : P = P') : LQB n N a s far out b P' more := h ▸ x
theorem LQB.pass {n : Nat} {N : Int → List Int} {a s : Int} {far b : Nat} {P : List Int} {out : List Int} {more : Bool} (x : LQB n N a s far out b P more) {c : Int} (h : s ≤ out.getD c.toNat 0) : LQB n N a s far out b (P ++ [c]) more :=
  ⟨x.len, x.ok, x.lo, x.no, x.dn, fun hb q y hy => (List.mem_append.1 hy).elim (x.cu hb q y) (fun hy => by rw [List.mem_singleton.1 hy]; exact h), x.mo⟩
theorem LQB.set {n : Nat} {N : Int → List Int} {a s : Int} {far b : Nat} {P : List Int} {out : List Int} {more : Bool} (x : LQB n N a s far out b P more) (hN : ∀ b : Int, 0 ≤ b ∧ b < n → ∀ c ∈ N b, 0 ≤ c ∧ c < n) (hPN : ∀ y ∈ P, y ∈ N b) {c : Int} (hb : b < n) (hf : out.getD b 0 = far + s) (h : out.getD c.toNat 0 < s) (he : c ∈ N b) : LQB n N a s far (out.set c.toNat (far + 1 + s)) b (P ++ [c]) true := by
  have hc := hN b (by omega) c he
  obtain ⟨k, rfl⟩ := Int.eq_ofNat_of_zero_le hc.1
  rw [Int.toNat_natCast] at h ⊢
  have hk : k < n := by omega
  have g : ∀ y, y < n → (out.set k ((far : Int) + 1 + s)).getD y 0 = if k = y then (far : Int) + 1 + s else out.getD y 0 := fun y hy => getD_set _ _ _ _ (by rw [x.len]; exact hy)
  have up : ∀ y : Int, 0 ≤ y ∧ y < n → s ≤ out.getD y.toNat 0 → s ≤ (out.set k ((far : Int) + 1 + s)).getD y.toNat 0 := fun y hy q => by
    rw [g y.toNat (by omega)]
    split
    · omega
    · exact q
  have db := (x.ok b hb (by omega)).1
  rw [hf, show ((far : Int) + s - s).toNat = far by omega] at db
  have wc : Wk N a (far + 1) k := .step db.1 he
  have dc : isD N a k (far + 1) := by
    obtain ⟨d, hd, q⟩ := wc.least
    by_cases t : d = far + 1
    · rw [← t]; exact q
    · have := x.lo k hk d (by omega) q; omega
  refine ⟨by rw [List.length_set]; exact x.len, fun y hy q => ?_, fun y hy d hd q => ?_, fun y hy q => ?_, fun y hy q q2 z hz => ?_, fun _ q y hy => ?_, ⟨fun _ => ⟨k, hk, by rw [g k hk, if_pos rfl]⟩, fun _ => rfl⟩⟩
  · rw [g y hy] at q ⊢
    by_cases t : k = y
    · subst t; rw [if_pos rfl]; exact ⟨by rw [show ((far : Int) + 1 + s - s).toNat = far + 1 by omega]; exact dc, by omega⟩
    · rw [if_neg t] at q ⊢; exact x.ok y hy q
  · rw [g y hy]
    by_cases t : k = y
    · subst t; have := q.uniq dc; omega
    · rw [if_neg t]; exact x.lo y hy d hd q
  · rw [g y hy] at q ⊢
    by_cases t : k = y
    · rw [if_pos t] at q; omega
    · rw [if_neg t] at q ⊢; exact x.no y hy q
  · rw [g y hy] at q2
    by_cases t : k = y
    · rw [if_pos t] at q2; omega
    · rw [if_neg t] at q2
      exact up z (hN y (by omega) z hz) (x.dn y hy q q2 z hz)
  · rw [g b hb] at q
    by_cases t : k = b
    · rw [if_pos t] at q; omega
    · rw [if_neg t] at q
      rcases List.mem_append.1 hy with hy | hy
      · exact up y (hN b (by omega) y (hPN y hy)) (x.cu hb q y hy)
      · rw [List.mem_singleton.1 hy, Int.toNat_natCast, g k hk, if_pos rfl]; omega
theorem LQB.next {n : Nat} {N : Int → List Int} {a s : Int} {far : Nat} {P : List Int} {out : List Int} {more : Bool} (hN : ∀ b : Int, 0 ≤ b ∧ b < n → ∀ c ∈ N b, 0 ≤ c ∧ c < n) (ha : 0 ≤ a ∧ a < n) (x : LQB n N a s far out n P more) : LQ n N a s (far + 1) out ∧ (more = false → ∀ y : Nat, y < n → ∀ d, isD N a y d → d ≤ far) := by
  have st : ∀ y : Nat, y < n → ∀ d, isD N a y (d + 1) → ∃ z : Nat, z < n ∧ isD N a z d ∧ (y : Int) ∈ N z := fun y hy d q => by
    obtain ⟨z, wz, hz⟩ := q.1.last
    have dz : 0 ≤ z ∧ z < (n : Int) := Wk.ok (ok := fun z => 0 ≤ z ∧ z < (n : Int)) ha hN wz
    obtain ⟨m, rfl⟩ := Int.eq_ofNat_of_zero_le dz.1
    exact ⟨m, by omega, ⟨wz, fun e' he w => q.2 (e' + 1) (by omega) (.step w hz)⟩, hz⟩
  have lo : ∀ y : Nat, y < n → ∀ d, d ≤ far + 1 → isD N a y d → out.getD y 0 = d + s := fun y hy d hd q => by
    by_cases t : d ≤ far
    · exact x.lo y hy d t q
    · obtain rfl : d = far + 1 := by omega
      obtain ⟨z, hz, dz, ez⟩ := st y hy far q
      have h0 := x.dn z hz hz (x.lo z hz far (Nat.le_refl _) dz) y ez
      rw [Int.toNat_natCast] at h0
      have := (x.ok y hy h0).1.uniq q
      omega
  refine ⟨⟨x.len, fun y hy h => ⟨(x.ok y hy h).1, by have := (x.ok y hy h).2; omega⟩, lo, x.no⟩, fun hm y hy d => ?_⟩
  have none : ∀ y : Nat, y < n → ¬ isD N a y (far + 1) := fun y hy q => by
    have := x.mo.2 ⟨y, hy, by have := lo y hy _ (Nat.le_refl _) q; omega⟩
    rw [hm] at this; cases this
  induction d generalizing y with
  | zero => intro _; omega
  | succ d ih =>
    intro q
    obtain ⟨z, hz, dz, ez⟩ := st y hy d q
    have := ih z hz dz
    by_cases t : d = far
    · subst t; exact absurd q (none y hy)
    · omega
/-- Who is told, behind so many rounds. -/
theorem LQ.mem {n : Nat} {N : Int → List Int} {a s : Int} {far : Nat} {out : List Int} (x : LQ n N a s far out) {y : Nat} (hy : y < n) : s ≤ out.getD y 0 ↔ ∃ j, j ≤ far ∧ Wk N a j y := by
  constructor
  · intro h
    have d := x.ok y hy h
    exact ⟨_, by omega, d.1.1⟩
  · rintro ⟨j, hj, w⟩
    obtain ⟨d, hd, q⟩ := w.least
    have := x.lo y hy d (by omega) q
    omega
theorem LQ.dist {n : Nat} {N : Int → List Int} {a : Int} {far : Nat} {out : List Int} (x : LQ n N a 0 far out) (h : ∀ y : Nat, y < n → ∀ d, isD N a y d → d ≤ far) : IsDist N n a out := by
  refine ⟨x.len, fun b h0 h1 q => ?_, fun b h0 h1 q => ?_⟩
  · have := (x.ok b.toNat (by omega) q).1
    rw [Int.sub_zero] at this
    rwa [show ((b.toNat : Nat) : Int) = b by omega] at this
  · refine ⟨by have := x.no b.toNat (by omega) q; omega, fun k w => ?_⟩
    obtain ⟨d, _, dd⟩ := w.least
    have dd' : isD N a ((b.toNat : Nat) : Int) d := by rwa [show ((b.toNat : Nat) : Int) = b by omega]
    have := x.lo b.toNat (by omega) d (h _ (by omega) d dd') dd'
    omega
theorem isD.bound {n : Nat} {N : Int → List Int} {a : Int} (hN : ∀ b : Int, 0 ≤ b ∧ b < n → ∀ c ∈ N b, 0 ≤ c ∧ c < n) (ha : 0 ≤ a ∧ a < n) {y : Int} {d : Nat} (q : isD N a y d) : d < n := by
  obtain ⟨l, h1, h2, h3⟩ := isD.chain ha hN d y q
  have := nodup_len h2 fun z hz => (h3 z hz).1
  omega
end Go.AM
