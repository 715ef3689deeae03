/- The law 'ClaimNames' holds: it takes nothing, returns true, and writes nothing that was there. No conditions. -/
import Derived.Test.YtahiemmfcgeiiaaRows
import Derived.Test.YtahiemmfcgeiiaaAMInsertInt
import Derived.Test.YtahiemmfcgeiiaaAMFast
import Derived.Test.YtahiemmfcgeiiaaInsC
import Derived.WalkKit
import Derived.ProofKit
import Derived.OpenShut
import Derived.ShutString
import Derived.ChangeOld
import Derived.Below
namespace Go.Proofs.Ytahiemmfcgeiiaa.ClaimN
open Go.ChangeShapes Go.WideShapes Go.ChangeAt Go.RowKit Go.AM

theorem own : ownKnob Try.prog.godebug = none := by kernel_rfl

/-- slices.Insert at claims stands for its own run. -/
noncomputable def prims : Prims := fun g => if g = 64 then some (pInsert Try.prog 61) else none

theorem progOk : ProgOk Try.prog (fun _ => false) prims := progOk_of (by kernel_rfl)

theorem insertOk : PrimOk Try.prog (fun _ => false) 64 (pInsert Try.prog 61) := by
  obtain ⟨inf, hi, h1⟩ : ∃ inf, Try.prog.info? 61 = some inf ∧ (inf.size, inf.bytes) = (2, 16) := by
    have h : (Try.prog.info? 61).map (fun i => (i.size, i.bytes)) = some (2, 16) := by kernel_rfl
    exact Option.map_eq_some_iff.1 h
  simp only [Prod.mk.injEq] at h1
  refine insert_ok Try.func64 rfl (by kernel_rfl) hi ?_
  rw [h1.1, h1.2]
  exact insSpec_claim

theorem primsOk : ∀ g p, prims g = some p → PrimOk Try.prog (fun _ => false) g p := by
  intro g p hp
  unfold prims at hp
  split at hp
  · rename_i e; cases hp; subst e; exact insertOk
  · cases hp

theorem primsKeep : PrimsKeep prims := by
  intro g p hp call _ all h r h' hl hh
  unfold prims at hp
  split at hp
  · cases hp; exact insert_keeps hl hh
  · cases hp

set_option maxRecDepth 1000000 in
theorem run : (callF Try.prog prims 300 (.func (.func 5) #[] #[]) [] (Go.AM.blank 0)).map (·.1) = some (.bool true) := by kernel_rfl

theorem walk (w : World) : Calls Try.prog 5 #[] w fun e w' => e = .returned (.bool true) ∧ Below w.heap.size w w' := by
  obtain ⟨⟨v, h'⟩, hh, hv⟩ := Option.map_eq_some_iff.1 run
  cases hv
  rw [callF_eq] at hh
  exact law_sound (by kernel_rfl) progOk primsOk primsKeep Try.func5 rfl (by kernel_rfl) hh (μ := fun _ => none) (fun g hg => by cases hg) (HR.blank w) rfl (VRs.nil _)

set_option maxRecDepth 100000 in
theorem lifted (os : Os) (started : os.Started) (H : Type) (enc : TypeId × Value → H) :
    ReturnsInHanded {} Try.checked os 5 .any (Rows.claimNamesSpec.pre6 enc Try.prog Try.f5 Rows.claimNamesRow.domain false) (Rows.claimNamesSpec.post enc Try.prog Try.f5 false true false false) := by
  refine returnsInHanded_of_change (C := Try.checked) own started (by kernel_rfl) Try.func5
    (ChangeSpec.witness6 (enc := enc) (C := Try.checked) false ⟨#[], #[], []⟩ 8 (by kernel_rfl) (by kernel_rfl) (by kernel_rfl) (by kernel_rfl)) ?_
  intro W base args ds gs before _ hW _ _
  have hW' := hW
  obtain ⟨p, q, hA0, hV, rfl, _, _⟩ := hW
  have hA : DataW.TrodAll enc Try.prog W 0 (fun _ => true) true Try.f5.params.toList args.toList ds p := hA0
  rw [Try.params5] at hA
  obtain ⟨rfl, rfl, rfl⟩ := trodAll_none hA
  obtain ⟨rfl, rfl⟩ := trodVars_none hV
  refine (walk W).mono fun e W' ⟨he, bel⟩ => ?_
  subst he
  exact ⟨_, rfl, _, _, _, [], _, [], hW', trodAll_mk1 (shut_bool Try.underlying4 _), trodAll_mk0, rfl, bel.frame _, fun h => by cases h⟩

theorem over : Rows.claimNamesRow.holds Try.pinned (OpenSpec.ofChange Rows.claimNamesSpec) :=
  OpenClaim.holds_of_wide 5 Try.f5 rfl rfl rfl rfl rfl rfl rfl ⟨rfl, rfl, rfl, rfl, rfl⟩ rfl rfl rfl rfl rfl (by kernel_rfl) Try.func5 (by kernel_rfl)
    (of_decide_eq_true (by kernel_rfl)) (by unfold Func.isWrapper; first | (rw [if_pos (by decide +kernel)]; kernel_rfl) | (rw [if_neg (by decide +kernel)]; exact ⟨rfl, rfl⟩))
    (fun os started H enc _ => lifted os started H enc)

end Go.Proofs.Ytahiemmfcgeiiaa.ClaimN
namespace Go.Proofs.Ytahiemmfcgeiiaa

/-- The statement. -/
theorem claimNames_proved : Rows.ClaimNamesSaid := ClaimN.over
#print axioms claimNames_proved
end Go.Proofs.Ytahiemmfcgeiiaa
