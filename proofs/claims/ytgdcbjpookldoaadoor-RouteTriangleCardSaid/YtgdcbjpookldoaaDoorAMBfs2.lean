/- Plain: more on distances. -/
import Derived.Test.YtgdcbjpookldoaaDoorAMBfs
set_option linter.unusedSimpArgs false
set_option linter.unusedVariables false
namespace Go.AM

theorem IsDist.zero' {N : Int → List Int} {n : Nat} {r : Int} {f : List Int} (x : IsDist N n r f) (h0 : 0 ≤ r) (h1 : r < n) : f.getD r.toNat 0 = 0 := by
  by_cases q : 0 ≤ f.getD r.toNat 0
  · have d := x.yes r h0 h1 q
    have : (f.getD r.toNat 0).toNat = 0 := d.uniq ⟨.zero, fun e he => by omega⟩
    omega
  · exact absurd .zero ((x.no r h0 h1 (by omega)).2 0)
theorem IsDist.self {N : Int → List Int} {n : Nat} {r : Int} {f : List Int} (x : IsDist N n r f) {b : Int} (hb : 0 ≤ b ∧ b < n) (q : f.getD b.toNat 0 = 0) : b = r := by
  have d := x.yes b hb.1 hb.2 (by omega)
  rw [q] at d
  have w := d.1
  generalize e : Int.toNat 0 = z at w
  cases w with
  | zero => rfl
  | step => simp at e
theorem IsDist.near {N : Int → List Int} {n : Nat} {r : Int} {f : List Int} (x : IsDist N n r f) (hr : 0 ≤ r ∧ r < n) (hN : ∀ b : Int, 0 ≤ b ∧ b < n → ∀ c ∈ N b, 0 ≤ c ∧ c < n) {b : Int} (hb : 0 ≤ b ∧ b < n) (q : 1 ≤ f.getD b.toNat 0) : ∃ c : Int, (0 ≤ c ∧ c < n) ∧ b ∈ N c ∧ f.getD c.toNat 0 = f.getD b.toNat 0 - 1 := by
  have d := x.yes b hb.1 hb.2 (by omega)
  obtain ⟨k, hk⟩ : ∃ k, (f.getD b.toNat 0).toNat = k + 1 := ⟨(f.getD b.toNat 0).toNat - 1, by omega⟩
  rw [hk] at d
  obtain ⟨c, wc, hc⟩ := d.1.last
  have hc' : 0 ≤ c ∧ c < n := Wk.ok (ok := fun z => 0 ≤ z ∧ z < n) hr hN wc
  have dc : isD N r c k := ⟨wc, fun e he w => d.2 (e + 1) (by omega) (.step w hc)⟩
  refine ⟨c, hc', hc, ?_⟩
  by_cases p : 0 ≤ f.getD c.toNat 0
  · have := (x.yes c hc'.1 hc'.2 p).uniq dc; omega
  · exact absurd wc ((x.no c hc'.1 hc'.2 (by omega)).2 _)

theorem isD.chain {N : Int → List Int} {n : Nat} {r : Int} (hr : 0 ≤ r ∧ r < n) (hN : ∀ b : Int, 0 ≤ b ∧ b < n → ∀ c ∈ N b, 0 ≤ c ∧ c < n) : ∀ (d : Nat) (b : Int), isD N r b d → ∃ l : List Int, l.length = d + 1 ∧ l.Nodup ∧ ∀ z ∈ l, (0 ≤ z ∧ z < n) ∧ ∃ e, e ≤ d ∧ isD N r z e
  | 0, b, h => ⟨[b], rfl, by simp, fun z hz => by rw [List.mem_singleton.1 hz]; exact ⟨Wk.ok (ok := fun z => 0 ≤ z ∧ z < n) hr hN h.1, 0, Nat.le_refl _, h⟩⟩
  | d + 1, b, h => by
    obtain ⟨c, wc, hc⟩ := h.1.last
    have dc : isD N r c d := ⟨wc, fun e he w => h.2 (e + 1) (by omega) (.step w hc)⟩
    obtain ⟨l, h1, h2, h3⟩ := isD.chain hr hN d c dc
    refine ⟨b :: l, by simp [h1], List.nodup_cons.2 ⟨fun hb => ?_, h2⟩, fun z hz => ?_⟩
    · obtain ⟨_, e, he, de⟩ := h3 b hb
      have := de.uniq h; omega
    · rcases List.mem_cons.1 hz with rfl | hz
      · exact ⟨Wk.ok (ok := fun z => 0 ≤ z ∧ z < n) hr hN h.1, d + 1, Nat.le_refl _, h⟩
      · obtain ⟨q, e, he, de⟩ := h3 z hz
        exact ⟨q, e, by omega, de⟩
theorem IsDist.bound {N : Int → List Int} {n : Nat} {r : Int} {f : List Int} (x : IsDist N n r f) (hr : 0 ≤ r ∧ r < n) (hN : ∀ b : Int, 0 ≤ b ∧ b < n → ∀ c ∈ N b, 0 ≤ c ∧ c < n) {b : Int} (hb : 0 ≤ b ∧ b < n) : -1 ≤ f.getD b.toNat 0 ∧ f.getD b.toNat 0 < n := by
  by_cases p : 0 ≤ f.getD b.toNat 0
  · obtain ⟨l, h1, h2, h3⟩ := isD.chain hr hN _ b (x.yes b hb.1 hb.2 p)
    have := nodup_len h2 fun z hz => (h3 z hz).1
    omega
  · have := (x.no b hb.1 hb.2 (by omega)).1
    omega

end Go.AM
