/- A text of this claim: the abstract machine. -/
import Derived.Test.YtgdcbjpookldoaaDoorAMPile
set_option linter.unusedSimpArgs false
set_option linter.unusedVariables false
namespace Go.AM

/-! ### Looking for the way, plain: what is known, what is closed, what stands open -/
def upd (K : Int → Option Int) (y v : Int) : Int → Option Int := fun z => if z = y then some v else K z
theorem upd_self (K : Int → Option Int) (y v : Int) : upd K y v y = some v := if_pos rfl
theorem upd_ne {K : Int → Option Int} {y v z : Int} (h : z ≠ y) : upd K y v z = K z := if_neg h
structure Star (N : Int → List Int) (to : Int) (hh : Int → Int) (E : Int → List Int) (K C : Int → Option Int) (P : List It) (f0 : Int) : Prop where
  kw : ∀ x k, K x = some k → 0 ≤ k ∧ Wk N to k.toNat x
  kt : K to = some 0
  cd : ∀ x d, C x = some d → K x = some d ∧ isD N to x d.toNat ∧ d + hh x ≤ f0
  cn : ∀ x d, C x = some d → ∀ y ∈ E x, ∃ k, K y = some k ∧ k ≤ d + 1
  pk : ∀ q ∈ P, ∃ k, K q.2 = some k ∧ k + hh q.2 ≤ q.1 ∧ f0 ≤ q.1
  op : ∀ x k, K x = some k → C x = none → (k + hh x, x) ∈ P
section
variable {N : Int → List Int} {to : Int} {hh : Int → Int} {E : Int → List Int} {K C : Int → Option Int} {P : List It} {f0 : Int}
theorem Star.init (N : Int → List Int) (to : Int) (hh : Int → Int) : Star N to hh N (upd (fun _ => none) to 0) (fun _ => none) [(hh to, to)] (hh to) := by
  refine ⟨fun x k h => ?_, upd_self _ _ _, fun x d h => (by cases h), fun x d h => (by cases h), fun q hq => ?_, fun x k h _ => ?_⟩
  · unfold upd at h
    split at h
    · rename_i e; cases h; subst e; exact ⟨Int.le_refl _, .zero⟩
    · cases h
  · rw [List.mem_singleton.1 hq]; exact ⟨0, upd_self _ _ _, by simp, Int.le_refl _⟩
  · unfold upd at h
    split at h
    · rename_i e; cases h; subst e; simp
    · cases h
theorem Star.same (s : Star N to hh E K C P f0) {E' : Int → List Int} (h : ∀ x, C x ≠ none → ∀ y ∈ E' x, y ∈ E x) : Star N to hh E' K C P f0 :=
  ⟨s.kw, s.kt, s.cd, fun x d hx y hy => s.cn x d hx y (h x (by rw [hx]; simp) y hy), s.pk, s.op⟩
/-- Whoever is reached is closed, or somebody stands open who costs no more. -/
theorem Star.front (s : Star N to hh N K C P f0) (hc : ∀ x y, y ∈ N x → hh x ≤ hh y + 1) : ∀ (m : Nat) (y : Int), isD N to y m → (∃ d, C y = some d) ∨ ∃ q ∈ P, q.1 ≤ m + hh y
  | 0, y, h => by
    have e : y = to := by
      have w := h.1
      generalize hz : (0 : Nat) = z at w
      cases w with
      | zero => rfl
      | step => omega
    subst e
    cases hC : C y with
    | some d => exact .inl ⟨d, rfl⟩
    | none => exact .inr ⟨_, s.op y 0 s.kt hC, by simp⟩
  | m + 1, y, h => by
    obtain ⟨z, wz, hz⟩ := h.1.last
    have dz : isD N to z m := ⟨wz, fun e he w => h.2 (e + 1) (by omega) (.step w hz)⟩
    rcases s.front hc m z dz with ⟨d, hd⟩ | ⟨q, hq, hq2⟩
    · obtain ⟨e1, e2, _⟩ := s.cd z d hd
      have ed := e2.uniq dz
      have k0 := (s.kw z d e1).1
      obtain ⟨k, hk, hk2⟩ := s.cn z d hd y hz
      obtain ⟨j0, wj⟩ := s.kw y k hk
      have := h.le wj
      cases hC : C y with
      | some d => exact .inl ⟨d, rfl⟩
      | none => exact .inr ⟨_, s.op y k hk hC, by simp only; omega⟩
    · have := hc z y hz
      exact .inr ⟨q, hq, by omega⟩
/-- The least one is dropped, for it is closed. -/
theorem Star.drop (s : Star N to hh N K C P f0) {q : It} {P' : List It} (hP : P.Perm (q :: P')) (hq : ∀ p ∈ P, leI q p) (hC : C q.2 ≠ none) : Star N to hh N K C P' q.1 := by
  have mem : ∀ p, p ∈ P' → p ∈ P := fun p hp => hP.mem_iff.2 (List.mem_cons_of_mem _ hp)
  obtain ⟨k, hk, hk2, hf⟩ := s.pk q (hP.mem_iff.2 (List.mem_cons_self ..))
  refine ⟨s.kw, s.kt, fun x d h => ?_, s.cn, fun p hp => ?_, fun x k hx hn => ?_⟩
  · obtain ⟨a, b, c⟩ := s.cd x d h
    exact ⟨a, b, by omega⟩
  · obtain ⟨a, b, c, _⟩ := s.pk p (mem p hp)
    exact ⟨a, b, c, (hq p (mem p hp)).cost⟩
  · rcases List.mem_cons.1 (hP.mem_iff.1 (s.op x k hx hn)) with e | e
    · exact absurd (by rw [← e]; exact hn) hC
    · exact e
/-- The least one is closed: its distance is known. -/
theorem Star.close (s : Star N to hh N K C P f0) (hc : ∀ x y, y ∈ N x → hh x ≤ hh y + 1) {q : It} {P' : List It} (hP : P.Perm (q :: P')) (hq : ∀ p ∈ P, leI q p) (hC : C q.2 = none) :
    ∃ k, K q.2 = some k ∧ 0 ≤ k ∧ q.1 = k + hh q.2 ∧ isD N to q.2 k.toNat ∧ Star N to hh (fun z => if z = q.2 then [] else N z) K (upd C q.2 k) P' q.1 := by
  have mem : ∀ p, p ∈ P' → p ∈ P := fun p hp => hP.mem_iff.2 (List.mem_cons_of_mem _ hp)
  obtain ⟨k, hk, hk2, hf⟩ := s.pk q (hP.mem_iff.2 (List.mem_cons_self ..))
  obtain ⟨k0, wk⟩ := s.kw _ k hk
  have hle := (hq _ (s.op _ k hk hC)).cost
  simp only at hle
  have hdist : isD N to q.2 k.toNat := by
    obtain ⟨m, hm, dm⟩ := wk.least
    rcases s.front hc m q.2 dm with ⟨d, hd⟩ | ⟨p, hp, hp2⟩
    · rw [hC] at hd; cases hd
    · have := (hq p hp).cost
      have : m = k.toNat := by omega
      rw [← this]; exact dm
  refine ⟨k, hk, k0, by omega, hdist, s.kw, s.kt, fun x d h => ?_, fun x d h y hy => ?_, fun p hp => ?_, fun x j hx hn => ?_⟩
  · unfold upd at h
    split at h
    · rename_i e; cases h; subst e; exact ⟨hk, hdist, by omega⟩
    · obtain ⟨a, b, c⟩ := s.cd x d h
      exact ⟨a, b, by omega⟩
  · by_cases e : x = q.2
    · rw [if_pos e] at hy; cases hy
    · rw [if_neg e] at hy
      rw [upd_ne e] at h
      exact s.cn x d h y hy
  · obtain ⟨a, b, c, _⟩ := s.pk p (mem p hp)
    exact ⟨a, b, c, (hq p (mem p hp)).cost⟩
  · by_cases e : x = q.2
    · subst e; rw [upd_self] at hn; cases hn
    · rw [upd_ne e] at hn
      rcases List.mem_cons.1 (hP.mem_iff.1 (s.op x j hx hn)) with t | t
      · exact absurd (congrArg Prod.snd t) e
      · exact t
/-- A neighbour that is known well enough. -/
theorem Star.pass {x d : Int} {Pr : List Int} (s : Star N to hh (fun z => if z = x then Pr else N z) K C P f0) (hx : C x = some d) {y k : Int} (hk : K y = some k) (hd : ¬ d + 1 < k) : Star N to hh (fun z => if z = x then Pr ++ [y] else N z) K C P f0 := by
  refine ⟨s.kw, s.kt, s.cd, fun z e hz w hw => ?_, s.pk, s.op⟩
  have h := s.cn z e hz
  by_cases t : z = x
  · subst t
    rw [if_pos rfl] at h
    simp only [if_true] at hw
    rcases List.mem_append.1 hw with hw | hw
    · exact h w hw
    · rw [List.mem_singleton.1 hw]
      rw [hx] at hz; cases hz
      exact ⟨k, hk, by omega⟩
  · rw [if_neg t] at h hw
    exact h w hw
/-- A neighbour that becomes known. -/
theorem Star.push {x d : Int} {Pr : List Int} (s : Star N to hh (fun z => if z = x then Pr else N z) K C P f0) (hx : C x = some d) (hf : f0 = d + hh x) {y : Int} (hy : y ∈ N x) (hc : hh x ≤ hh y + 1) (hk : ∀ k, K y = some k → d + 1 < k) {P' : List It} (hP : P'.Perm ((d + 1 + hh y, y) :: P)) :
    Star N to hh (fun z => if z = x then Pr ++ [y] else N z) (upd K y (d + 1)) C P' f0 := by
  obtain ⟨kx, dx, _⟩ := s.cd x d hx
  have d0 := (s.kw x d kx).1
  have wy : Wk N to (d.toNat + 1) y := .step dx.1 hy
  have hCy : C y = none := by
    cases h : C y with
    | none => rfl
    | some e =>
      obtain ⟨a, b, _⟩ := s.cd y e h
      have := hk e a
      have := b.le wy
      omega
  have neK : ∀ z e, C z = some e → z ≠ y := fun z e h t => by rw [t, hCy] at h; cases h
  refine ⟨fun z k h => ?_, ?_, fun z e h => ?_, fun z e hz w hw => ?_, fun q hq => ?_, fun z k h hn => ?_⟩
  · unfold upd at h
    split at h
    · rename_i t; cases h; subst t; exact ⟨by omega, by rw [show (d + 1).toNat = d.toNat + 1 by omega]; exact wy⟩
    · exact s.kw z k h
  · by_cases t : to = y
    · have := hk 0 (by rw [← t]; exact s.kt); omega
    · rw [upd_ne t]; exact s.kt
  · rw [upd_ne (neK z e h)]; exact s.cd z e h
  · have up : ∀ w k, K w = some k → k ≤ e + 1 → ∃ k', upd K y (d + 1) w = some k' ∧ k' ≤ e + 1 := fun w k h1 h2 => by
      by_cases t : w = y
      · subst t
        have := hk k h1
        exact ⟨_, upd_self _ _ _, by omega⟩
      · exact ⟨k, by rw [upd_ne t]; exact h1, h2⟩
    have h := s.cn z e hz
    by_cases t : z = x
    · subst t
      rw [if_pos rfl] at h
      simp only [if_true] at hw
      rcases List.mem_append.1 hw with hw | hw
      · obtain ⟨k, h1, h2⟩ := h w hw
        exact up w k h1 h2
      · rw [List.mem_singleton.1 hw]
        rw [hx] at hz; cases hz
        exact ⟨_, upd_self _ _ _, by omega⟩
    · rw [if_neg t] at h hw
      obtain ⟨k, h1, h2⟩ := h w hw
      exact up w k h1 h2
  · rcases List.mem_cons.1 (hP.mem_iff.1 hq) with t | t
    · subst t
      exact ⟨d + 1, upd_self _ _ _, Int.le_refl _, by simp only; omega⟩
    · obtain ⟨k, h1, h2, h3⟩ := s.pk q t
      by_cases u : q.2 = y
      · rw [u] at h1
        have := hk k h1
        exact ⟨d + 1, by rw [u]; exact upd_self _ _ _, by omega, h3⟩
      · exact ⟨k, by rw [upd_ne u]; exact h1, h2, h3⟩
  · refine hP.mem_iff.2 ?_
    by_cases t : z = y
    · subst t
      rw [upd_self] at h; cases h
      exact List.mem_cons_self ..
    · rw [upd_ne t] at h
      exact List.mem_cons_of_mem _ (s.op z k h hn)
theorem Star.row {x : Int} {Pr : List Int} (s : Star N to hh (fun z => if z = x then Pr else N z) K C P f0) (h : ∀ y ∈ N x, y ∈ Pr) : Star N to hh N K C P f0 :=
  s.same fun z _ y hy => by
    by_cases t : z = x
    · subst t; simp only [if_true]; exact h y hy
    · simp only [if_neg t]; exact hy
end
/-- What a search has found. -/
structure Looked (N : Int → List Int) (to fr : Int) (hh : Int → Int) (C : Int → Option Int) (far : Int) : Prop where
  neg : far < 0 → far = -1 ∧ ∀ k, ¬ Wk N to k fr
  pos : 0 ≤ far → isD N to fr far.toNat
  mem : ∀ x d, C x = some d → 0 ≤ d ∧ isD N to x d.toNat ∧ (0 ≤ far → d + hh x ≤ far)
  all : ∀ x m, isD N to x m → (0 ≤ far → (m : Int) + hh x ≤ far) → C x = some (m : Int)
theorem Star.looked {N : Int → List Int} {to fr : Int} {hh : Int → Int} {K C : Int → Option Int} {P : List It} {f0 far : Int} (s : Star N to hh N K C P f0) (hc : ∀ x y, y ∈ N x → hh x ≤ hh y + 1) (h0 : hh fr = 0)
    (hf : (far = -1 ∧ C fr = none) ∨ (0 ≤ far ∧ C fr = some far ∧ f0 ≤ far)) (he : P = [] ∨ (0 ≤ far ∧ ∀ q ∈ P, far < q.1)) : Looked N to fr hh C far := by
  have key : ∀ x m, isD N to x m → (0 ≤ far → (m : Int) + hh x ≤ far) → C x = some (m : Int) := fun x m dm hle => by
    rcases s.front hc m x dm with ⟨d, hd⟩ | ⟨q, hq, hq2⟩
    · obtain ⟨a, b, _⟩ := s.cd x d hd
      have := b.uniq dm
      have := (s.kw x d a).1
      rw [hd]; congr 1; omega
    · rcases he with he | ⟨h1, h2⟩
      · rw [he] at hq; cases hq
      · have := hle h1
        have := h2 q hq
        omega
  refine ⟨fun hneg => ?_, fun hpos => ?_, fun x d hd => ?_, key⟩
  · rcases hf with ⟨e, hn⟩ | ⟨e, _⟩
    · refine ⟨e, fun k w => ?_⟩
      obtain ⟨m, _, dm⟩ := w.least
      have := key fr m dm (fun q => by omega)
      rw [hn] at this; cases this
    · omega
  · rcases hf with ⟨e, hn⟩ | ⟨_, e, _⟩
    · omega
    · exact (s.cd fr far e).2.1
  · obtain ⟨a, b, c⟩ := s.cd x d hd
    refine ⟨(s.kw x d a).1, b, fun h => ?_⟩
    rcases hf with ⟨e, hn⟩ | ⟨_, _, e⟩
    · omega
    · omega
end Go.AM
