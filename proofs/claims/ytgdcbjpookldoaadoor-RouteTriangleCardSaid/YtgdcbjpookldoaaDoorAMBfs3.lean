/- Plain: who is reached. -/
import Derived.Test.YtgdcbjpookldoaaDoorAMBfs2
set_option linter.unusedSimpArgs false
set_option linter.unusedVariables false
namespace Go.AM

theorem IsDist.mono {N M : Int → List Int} {n : Nat} {r : Int} {f g : List Int} (x : IsDist N n r f) (y : IsDist M n r g) (hr : 0 ≤ r ∧ r < n) (hN : ∀ b : Int, 0 ≤ b ∧ b < n → ∀ c ∈ N b, 0 ≤ c ∧ c < n) (h : ∀ b c : Int, c ∈ N b → c ∈ M b) {b : Int} (hb : 0 ≤ b ∧ b < n) (q : 0 ≤ f.getD b.toNat 0) : 0 ≤ g.getD b.toNat 0 ∧ g.getD b.toNat 0 ≤ f.getD b.toNat 0 := by
  have d := x.yes b hb.1 hb.2 q
  have w : Wk M r (f.getD b.toNat 0).toNat b := (Wk.congr (ok := fun _ => True) trivial (fun b _ c hc => ⟨h b c hc, trivial⟩) d.1).1
  by_cases p : 0 ≤ g.getD b.toNat 0
  · have := (y.yes b hb.1 hb.2 p).le w
    omega
  · exact absurd w ((y.no b hb.1 hb.2 (by omega)).2 _)

/-- Is reached. -/
def Rc (N : Int → List Int) (a b : Int) : Prop := ∃ k, Wk N a k b
theorem Rc.refl (N : Int → List Int) (a : Int) : Rc N a a := ⟨0, .zero⟩
theorem Rc.trans {N : Int → List Int} {a b c : Int} (h : Rc N a b) (g : Rc N b c) : Rc N a c := by
  obtain ⟨j, h⟩ := h
  obtain ⟨k, g⟩ := g
  exact ⟨_, h.trans g⟩
theorem Rc.step {N : Int → List Int} {a b c : Int} (h : Rc N a b) (hc : c ∈ N b) : Rc N a c := by
  obtain ⟨j, h⟩ := h
  exact ⟨_, .step h hc⟩
theorem Rc.one {N : Int → List Int} {a b : Int} (h : b ∈ N a) : Rc N a b := (Rc.refl N a).step h
theorem Rc.mono {N M : Int → List Int} (ok : Int → Prop) {a b : Int} (ha : ok a) (h : ∀ b c : Int, ok b → c ∈ N b → c ∈ M b ∧ ok c) (g : Rc N a b) : Rc M a b ∧ ok b := by
  obtain ⟨k, w⟩ := g
  have := Wk.congr (ok := ok) ha (fun b hb c hc => h b c hb hc) w
  exact ⟨⟨k, this.1⟩, this.2⟩
end Go.AM
