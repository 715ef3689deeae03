/- The law 'InheritNames' holds: it takes nothing, returns true, and writes nothing that was there. No conditions. -/
import Derived.Test.YtodcnfabnlojdaaRows
import Derived.Test.YtodcnfabnlojdaaAMLift
import Derived.WalkKit
import Derived.ProofKit
import Derived.OpenShut
import Derived.ShutString
import Derived.ChangeOld
import Derived.Below
import Derived.Test.YtodcnfabnlojdaaWb
set_option linter.unusedSimpArgs false
set_option linter.unusedVariables false
namespace Go.Proofs.Ytodcnfabnlojdaa.LawInheritNames
open Go.ChangeShapes Go.WideShapes Go.ChangeAt Go.RowKit Go.AM

theorem own : ownKnob Try.prog.godebug = none := by kernel_rfl
theorem progOk : ProgOk Try.prog (fun _ => false) prims := progOk_of (by kernel_rfl)
theorem data : ∀ t ∈ Try.f13.params.toList, dataT Try.prog 10 t = true := by
  have h : (Try.f13.params.toList.all fun t => dataT Try.prog 10 t) = true := by kernel_rfl
  exact List.all_eq_true.1 h
theorem readable : ∀ t ∈ Try.f13.params.toList, Try.prog.readableRec t = true ∧ t < Try.prog.types.size := by
  have h : (Try.f13.params.toList.all fun t => Try.prog.readableRec t && decide (t < Try.prog.types.size)) = true := by kernel_rfl
  intro t ht
  have := List.all_eq_true.1 h t ht
  simpa using this
theorem pars : Try.f13.params.toList = [] := by kernel_rfl
theorem run (h : AHeap) (xs : List Value) (hl : h.low = h.next) (ha : ADs Try.prog h Try.f13.params.toList xs) : CallW Try.prog prims (.func (.func 13) #[] #[]) xs h fun v _ => v = .bool true := by
  rw [pars] at ha
  cases ha
  exact names_w (by omega)

set_option maxRecDepth 100000 in
theorem lifted (os : Os) (started : os.Started) (H : Type) (enc : TypeId × Value → H) :
    ReturnsInHanded {} Try.checked os 13 .any (Rows.inheritNamesSpec.pre6 enc Try.prog Try.f13 Rows.inheritNamesRow.domain false) (Rows.inheritNamesSpec.post enc Try.prog Try.f13 false true false false) := by
  refine returnsInHanded_of_change_shaped (C := Try.checked) own started (by kernel_rfl) Try.func13
    (ChangeSpec.witness6 (enc := enc) (C := Try.checked) false ⟨#[], #[], []⟩ 8 (by kernel_rfl) (by kernel_rfl) (by kernel_rfl) (by kernel_rfl)) ?_
  intro W base args ds gs before hval hW _ _ hsh _
  have hW' := hW
  obtain ⟨p, q, hA0, hV, rfl, _, _⟩ := hW
  have hA : DataW.TrodAll enc Try.prog W 0 (fun _ => true) true Try.f13.params.toList args.toList ds p := hA0
  obtain ⟨rfl, rfl⟩ := trodVars_none hV
  have hlt := hA.lt
  have hblk := block_of_shaped' (P := Try.prog) hsh (k := Try.prog.globals.size) (Nat.le_refl _) (by kernel_rfl) (by kernel_rfl)
  refine (law_run (by kernel_rfl) progOk primsOk primsKeep Try.func13 rfl (by kernel_rfl) data hA (fun j t v h1 h2 => hval j t v (by simp at h1) h2) hblk run).mono fun e W' ⟨he, bel⟩ => ?_
  subst he
  have hA' := trodAll_below (P := Try.prog) (by kernel_rfl) bel _ _ _ _ readable hA hlt
  have hds : ds = [] := by
    rw [pars] at hA
    obtain ⟨_, rfl, _⟩ := trodAll_nil hA
    exact rfl
  cases hds
  exact ⟨_, rfl, _, _, _, [], _, [], hW', trodAll_mk1 (shut_bool Try.underlying4 _), hA', rfl, bel.frame _, fun h => by cases h⟩

theorem over : Rows.inheritNamesRow.holds Try.pinned (OpenSpec.ofChange Rows.inheritNamesSpec) :=
  OpenClaim.holds_of_wide 13 Try.f13 rfl rfl rfl rfl rfl rfl rfl ⟨rfl, rfl, rfl, rfl, rfl⟩ rfl rfl rfl rfl rfl (by kernel_rfl) Try.func13 (by kernel_rfl)
    (of_decide_eq_true (by kernel_rfl)) (by unfold Func.isWrapper; first | (rw [if_pos (by decide +kernel)]; kernel_rfl) | (rw [if_neg (by decide +kernel)]; exact ⟨rfl, rfl⟩))
    (fun os started H enc _ => lifted os started H enc)

end Go.Proofs.Ytodcnfabnlojdaa.LawInheritNames
namespace Go.Proofs.Ytodcnfabnlojdaa

/-- The statement. -/
theorem inheritNames_proved : Rows.InheritNamesSaid := LawInheritNames.over
#print axioms inheritNames_proved
end Go.Proofs.Ytodcnfabnlojdaa
