/- WP: loose readers of structs of two slices; copy. -/
import Derived.Test.YtbaohngkapmhlaaDoorAMIter3
import Derived.Test.YtbaohngkapmhlaaDoorAMOps6
set_option linter.unusedSimpArgs false
set_option linter.unusedVariables false
namespace Go.AM
variable {P : Program}

theorem stabL_agg2 {h hk : AHeap} {t e e' : TypeId} {id off n m sz sz' n' : Nat} {a b : Value} {cs cs' : List Value} (x : Rd h e sz a n cs) (y : Rd h e' sz' b n' cs') (hm : h.next ≤ m) (hid : id < m)
    (hl : aLoad P hk t (.pointer (some ⟨id, off, none⟩)) = some (.agg #[a, b])) : stabL P hk t (.pointer (some ⟨id, off, none⟩)) m (.agg #[a, b]) := by
  have k : ∀ {e sz v n cs}, Rd h e sz v n cs → sameV 19 v v = true ∧ belowV m 19 v = true := by
    intro e sz v n cs x
    rcases x with ⟨rfl, _⟩ | ⟨id, off, cap, c, e', o, rfl, _, hg, _⟩
    · exact ⟨sameV_snil _ _ _, rfl⟩
    · have := get_some_lt hg
      exact ⟨sameV_slice _ _ _ _ _, by simp [belowV]; omega⟩
  refine ⟨id, off, rfl, hid, hl, ?_, ?_⟩
  · show (decide ((2 : Nat) = 2) && ([(a, a), (b, b)].all fun p => sameV 19 p.1 p.2)) = true
    simp only [List.all_cons, List.all_nil, (k x).1, (k y).1]; rfl
  · show ([a, b].all fun x => belowV m 19 x) = true
    simp only [List.all_cons, List.all_nil, (k x).2, (k y).2]; rfl

end Go.AM
