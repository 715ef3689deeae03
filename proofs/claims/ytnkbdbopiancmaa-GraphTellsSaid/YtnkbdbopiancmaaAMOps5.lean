/- AM: append within the room there is; clear. -/
import Derived.Test.YtnkbdbopiancmaaAMOps4
set_option linter.unusedSimpArgs false
set_option linter.unusedVariables false
namespace Go.AM
variable {P : Program} {prims : Prims}

theorem repeated_len (z : List Value) (n : Nat) : (repeated z n).length = n * z.length := by
  induction n with
  | zero => simp [repeated]
  | succ n ih => rw [repeated, List.length_append, ih, Nat.add_mul, Nat.one_mul]; omega
theorem clear_in {h : AHeap} {t e : TypeId} {sz b id off n cap : Nat} {c : List Value} {o : Bool} {K : VQ} (ht : apI P t = some (e, sz, b)) (hg : h.get id = some (.cells c e o)) (hlo : h.low ≤ id) (hf : off + n * sz ≤ c.length)
    (hq : ∀ h' c', h'.get id = some (.cells c' e o) → c'.length = c.length → (∀ k, k < off → c'[k]? = c[k]?) → Fr (fun k => k = id) h h' → h'.next = h.next → K (.tuple #[]) h') : optT (aClear P h t (.slice (some ⟨id, off, none⟩) n cap)) K := by
  obtain ⟨inf, z, hu, hi, rfl, rfl, hz, hzs, hzp, h0⟩ := apI_el ht
  unfold aClear
  simp only [hu]
  by_cases hn : n = 0
  · rw [if_pos hn]
    exact ⟨h, rfl, hq h c hg rfl (fun _ _ => rfl) (Fr.refl _ _) rfl⟩
  · rw [if_neg hn]
    simp only [hg, hi, hz, Option.bind_some]
    rw [if_pos ⟨hlo, trivial, hf, hzs, by omega, hzp⟩]
    have hl : (repeated z.cells.toList n).length = n * inf.size := by rw [repeated_len]; simp [hzs]
    refine ⟨_, rfl, hq _ _ (get_put_self rfl (get_some_lt hg)) (setRow_len _ _ _) (fun k hk => ?_) ((Fr.refl _ h).put _ (.inr rfl)) rfl⟩
    rw [setRow_get _ _ _ (by omega), if_neg (by omega)]

/-! ### Bounds of a cut, by whole numbers -/
section
variable {n cap : Nat} {k k' k'' : IntKind} {l m q : Int}
theorem slbs_lo_i (h0 : 0 ≤ l) (h1 : l ≤ n) : aSliceBounds n cap (some (.int k l)) none none = some (l.toNat, n, cap) := slbs_lo (slb h0 h1)
theorem slbs_hi_i (h0 : 0 ≤ m) (h1 : m ≤ cap) : aSliceBounds n cap none (some (.int k m)) none = some (0, m.toNat, cap) := slbs_hi (slb h0 h1)
end

/-! ### Bytes as a string -/
end Go.AM
