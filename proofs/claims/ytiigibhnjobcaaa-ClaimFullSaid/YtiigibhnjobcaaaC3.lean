/- A text of this claim: walks, or plain law. -/
import Derived.Test.YtiigibhnjobcaaaC2
set_option linter.unusedSimpArgs false
set_option linter.unusedVariables false
namespace Go.Proofs.Ytiigibhnjobcaaa
open Go.AM

/-! ### Plain: claims that are put in -/
theorem posC_cons_lt {p : Cm} {L : List Cm} {x : Int} (h : p.1 < x) : posC (p :: L) x = posC L x + 1 := by
  unfold posC; rw [List.countP_cons_of_pos (by simpa using h)]
theorem posC_zero {L : List Cm} {x : Int} (h : ∀ p ∈ L, x ≤ p.1) : posC L x = 0 := by
  unfold posC; rw [List.countP_eq_zero]; intro p hp; have := h p hp; simp; omega
theorem take_lt {L : List Cm} (hs : Srt L) (x : Int) : (∀ p ∈ L.take (posC L x), p.1 < x) ∧ ∀ p ∈ L.drop (posC L x), x ≤ p.1 := by
  induction L with
  | nil => exact ⟨fun p h => (by simp at h), fun p h => (by simp at h)⟩
  | cons q L ih =>
    have hq := List.pairwise_cons.1 hs
    by_cases h : q.1 < x
    · rw [posC_cons_lt h]
      obtain ⟨h1, h2⟩ := ih hq.2
      refine ⟨fun p hp => ?_, fun p hp => h2 p (by simpa using hp)⟩
      rw [List.take_succ_cons] at hp
      rcases List.mem_cons.1 hp with rfl | hp
      · exact h
      · exact h1 p hp
    · have hall : ∀ p ∈ q :: L, x ≤ p.1 := by
        intro p hp
        rcases List.mem_cons.1 hp with rfl | hp
        · omega
        · have := hq.1 p hp; omega
      rw [posC_zero hall]
      exact ⟨fun p h => (by simp at h), fun p hp => hall p (by simpa using hp)⟩
theorem getC_append (A B : List Cm) (x : Int) : getC (A ++ B) x = (getC A x).or (getC B x) := by
  unfold getC; rw [List.find?_append]; cases A.find? fun p => p.1 == x <;> rfl
theorem getC_none {A : List Cm} {x : Int} (h : ∀ p ∈ A, p.1 ≠ x) : getC A x = none := by
  unfold getC
  have : A.find? (fun p => p.1 == x) = none := by rw [List.find?_eq_none]; intro p hp; simpa using h p hp
  rw [this]; rfl
theorem getC_cons (q : Cm) (A : List Cm) (x : Int) : getC (q :: A) x = if q.1 = x then some q.2 else getC A x := by
  unfold getC; rw [List.find?_cons]
  by_cases h : q.1 = x
  · rw [if_pos h]; simp [h]
  · rw [if_neg h]; have : (q.1 == x) = false := by simpa using h
    rw [this]
theorem insC_get {L : List Cm} (hs : Srt L) (x g y : Int) (hx : getC L x = none) : getC (insC L x g) y = if y = x then some g else getC L y := by
  obtain ⟨h1, h2⟩ := take_lt hs x
  have e : getC L y = (getC (L.take (posC L x)) y).or (getC (L.drop (posC L x)) y) := by rw [← getC_append, List.take_append_drop]
  unfold insC
  rw [getC_append, getC_cons]
  by_cases h : y = x
  · subst h
    rw [if_pos rfl, if_pos rfl, getC_none (fun p hp => by have := h1 p hp; omega)]; rfl
  · rw [if_neg (fun q => h q.symm), if_neg h, e]
theorem insC_length (L : List Cm) (x g : Int) : (insC L x g).length = L.length + 1 := by
  have := posC_le L x
  unfold insC; simp; omega
theorem not_mem_of_get {L : List Cm} {x : Int} (hx : getC L x = none) : ∀ p ∈ L, p.1 ≠ x := by
  intro p hp e
  have : hasC L x = true := by unfold hasC; rw [List.any_eq_true]; exact ⟨p, hp, by simpa using e⟩
  rw [hasC_get, hx] at this; cases this
theorem insC_srt {L : List Cm} (hs : Srt L) {x : Int} (g : Int) (hx : getC L x = none) : Srt (insC L x g) := by
  obtain ⟨h1, h2⟩ := take_lt hs x
  have hne := not_mem_of_get hx
  have hgt : ∀ p ∈ L.drop (posC L x), x < p.1 := fun p hp => by
    have := h2 p hp; have := hne p (List.mem_of_mem_drop hp); omega
  unfold Srt insC
  rw [List.pairwise_append]
  refine ⟨hs.sublist (List.take_sublist _ _), List.pairwise_cons.2 ⟨fun p hp => hgt p hp, hs.sublist (List.drop_sublist _ _)⟩, fun a ha b hb => ?_⟩
  have := h1 a ha
  rcases List.mem_cons.1 hb with rfl | hb
  · exact this
  · have := hgt b hb; omega
theorem insC_enc (L : List Cm) (x g : Int) : (L.flatMap encC).take (posC L x * 2) ++ [.int .i64 x, .int .u32 g] ++ (L.flatMap encC).drop (posC L x * 2) = (insC L x g).flatMap encC := by
  have hp := posC_le L x
  have e : L.flatMap encC = (L.take (posC L x)).flatMap encC ++ (L.drop (posC L x)).flatMap encC := by rw [← List.flatMap_append, List.take_append_drop]
  have hl : ((L.take (posC L x)).flatMap encC).length = posC L x * 2 := by rw [AM.flat_length encC_len]; simp; omega
  rw [e, List.take_left' hl, List.drop_left' hl]
  unfold insC
  rw [List.flatMap_append, List.flatMap_cons, List.append_assoc]; rfl
theorem srt_ext : ∀ {A B : List Cm}, Srt A → Srt B → (∀ x, getC A x = getC B x) → A = B
  | [], [], _, _, _ => rfl
  | [], b :: B, _, _, h => by have := h b.1; rw [getC_cons, if_pos rfl] at this; cases this
  | a :: A, [], _, _, h => by have := h a.1; rw [getC_cons, if_pos rfl] at this; cases this
  | a :: A, b :: B, ha, hb, h => by
    have pa := List.pairwise_cons.1 ha
    have pb := List.pairwise_cons.1 hb
    have h1 : a.1 = b.1 := by
      by_cases e : a.1 = b.1
      · exact e
      · by_cases l : a.1 < b.1
        · have := h a.1
          rw [getC_cons, if_pos rfl, getC_cons, if_neg (by omega), getC_none (fun p hp => by have := pb.1 p hp; omega)] at this; cases this
        · have := h b.1
          rw [getC_cons, if_neg e, getC_cons, if_pos rfl, getC_none (fun p hp => by have := pa.1 p hp; omega)] at this; cases this
    have h2 : a.2 = b.2 := by
      have := h a.1
      rw [getC_cons, if_pos rfl, getC_cons, if_pos h1.symm] at this
      exact Option.some.inj this
    have h3 : A = B := srt_ext pa.2 pb.2 fun x => by
      by_cases e : a.1 = x
      · rw [getC_none (fun p hp => by have := pa.1 p hp; omega), getC_none (fun p hp => by have := pb.1 p hp; omega)]
      · have := h x
        rw [getC_cons, if_neg e, getC_cons, if_neg (by omega)] at this
        exact this
    rw [Prod.ext h1 h2, h3]

/-! ### Plain: records -/
abbrev Rec := Int × Int × Value × List Int
def encR (r : Rec) : List Value := [.int .i64 r.1, .int .i64 r.2.1, r.2.2.1]
theorem encR_len (r : Rec) : (encR r).length = 3 := rfl
abbrev dR : Rec := (0, 0, .slice none 0 0, [])
def RecOk (h : AHeap) (r : Rec) : Prop := (∃ a c, r.2.2.1 = .slice a r.2.2.2.length c) ∧ Rd h 5 1 r.2.2.1 r.2.2.2.length (r.2.2.2.map (.int .u8)) ∧ ∀ b ∈ r.2.2.2, 0 ≤ b ∧ b < 256
def genB (bs : List Int) : Int := bs.foldl (fun g b => g * 256 + b) 0
def cnt (l : List Rec) : Nat → Int → Nat
  | 0, _ => 0
  | i + 1, x => cnt l i x + if (l.getD i dR).1 = 2 ∧ (l.getD i dR).2.1 = x then 1 else 0
def badR (l : List Rec) (i : Nat) : Prop := (l.getD i dR).1 = 2 ∧ (¬ (0 ≤ (l.getD i dR).2.1 ∧ (l.getD i dR).2.1 < 1024) ∨ ((l.getD i dR).2.2.2.length ≠ 0 ∧ (l.getD i dR).2.2.2.length ≠ 4) ∨ 1 ≤ cnt l i (l.getD i dR).2.1)
def okTo (l : List Rec) (i : Nat) : Prop := ∀ k, k < i → ¬ badR l k
def clm (l : List Rec) : Nat → List Cm
  | 0 => []
  | i + 1 => if (l.getD i dR).1 = 2 ∧ (l.getD i dR).2.2.2.length = 4 then insC (clm l i) (l.getD i dR).2.1 (genB (l.getD i dR).2.2.2) else clm l i
theorem clm_facts (l : List Rec) : ∀ i, okTo l i → Srt (clm l i) ∧ (clm l i).length ≤ i ∧ ∀ x, (getC (clm l i) x).isSome = true → 1 ≤ cnt l i x ∧ 0 ≤ x ∧ x < 1024
  | 0, _ => ⟨List.Pairwise.nil, Nat.le_refl _, fun x h => by cases h⟩
  | i + 1, hok => by
    obtain ⟨h1, h2, h3⟩ := clm_facts l i fun k hk => hok k (by omega)
    have hb := hok i (by omega)
    unfold clm cnt
    by_cases hc : (l.getD i dR).1 = 2 ∧ (l.getD i dR).2.2.2.length = 4
    · rw [if_pos hc]
      have hn : ¬ 1 ≤ cnt l i (l.getD i dR).2.1 := fun q => hb ⟨hc.1, .inr (.inr q)⟩
      have hx : getC (clm l i) (l.getD i dR).2.1 = none := by
        cases hg : getC (clm l i) (l.getD i dR).2.1 with
        | none => rfl
        | some g => exact absurd (h3 _ (by rw [hg]; rfl)).1 hn
      refine ⟨insC_srt h1 _ hx, by rw [insC_length]; omega, fun x hs => ?_⟩
      rw [insC_get h1 _ _ _ hx] at hs
      by_cases e : x = (l.getD i dR).2.1
      · subst e
        rw [if_pos ⟨hc.1, rfl⟩]
        have : 0 ≤ (l.getD i dR).2.1 ∧ (l.getD i dR).2.1 < 1024 := by
          by_cases q : 0 ≤ (l.getD i dR).2.1 ∧ (l.getD i dR).2.1 < 1024
          · exact q
          · exact absurd ⟨hc.1, .inl q⟩ hb
        exact ⟨by omega, this⟩
      · rw [if_neg e] at hs
        have := h3 x hs
        exact ⟨by omega, this.2⟩
    · rw [if_neg hc]
      exact ⟨h1, by omega, fun x hs => by have := h3 x hs; exact ⟨by omega, this.2⟩⟩
theorem clm_none {l : List Rec} {i : Nat} (hok : okTo l i) (hb : ¬ badR l i) (hk : (l.getD i dR).1 = 2) : getC (clm l i) (l.getD i dR).2.1 = none := by
  cases hg : getC (clm l i) (l.getD i dR).2.1 with
  | none => rfl
  | some g => exact absurd ⟨hk, .inr (.inr ((clm_facts l i hok).2.2 _ (by rw [hg]; rfl)).1)⟩ hb

end Go.Proofs.Ytiigibhnjobcaaa
