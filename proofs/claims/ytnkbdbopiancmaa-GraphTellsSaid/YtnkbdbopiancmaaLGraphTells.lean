/- The law 'GraphTells' holds: for every number of nodes, list of edges, and node, it returns true, and writes nothing that was there. No conditions. -/
import Derived.Test.YtnkbdbopiancmaaRows
import Derived.Test.YtnkbdbopiancmaaAMLift
import Derived.WalkKit
import Derived.ProofKit
import Derived.OpenShut
import Derived.ShutString
import Derived.ChangeOld
import Derived.Below
import Derived.Test.YtnkbdbopiancmaaWd
set_option linter.unusedSimpArgs false
set_option linter.unusedVariables false
namespace Go.Proofs.Ytnkbdbopiancmaa.LawGraphTells
open Go.ChangeShapes Go.WideShapes Go.ChangeAt Go.RowKit Go.AM

theorem own : ownKnob Try.prog.godebug = none := by kernel_rfl
theorem progOk : ProgOk Try.prog (fun _ => false) prims := progOk_of (by kernel_rfl)
theorem data : ∀ t ∈ Try.f5.params.toList, dataT Try.prog 10 t = true := by
  have h : (Try.f5.params.toList.all fun t => dataT Try.prog 10 t) = true := by kernel_rfl
  exact List.all_eq_true.1 h
theorem readable : ∀ t ∈ Try.f5.params.toList, Try.prog.readableRec t = true ∧ t < Try.prog.types.size := by
  have h : (Try.f5.params.toList.all fun t => Try.prog.readableRec t && decide (t < Try.prog.types.size)) = true := by kernel_rfl
  intro t ht
  have := List.all_eq_true.1 h t ht
  simpa using this
theorem pars : Try.f5.params.toList = [3, 22, 3] := by kernel_rfl
theorem run (h : AHeap) (xs : List Value) (hl : h.low = h.next) (ha : ADs Try.prog h Try.f5.params.toList xs) : CallW Try.prog prims (.func (.func 5) #[] #[]) xs h fun v _ => v = .bool true := by
  rw [pars] at ha
  obtain ⟨a, _, rfl, q1, ha⟩ := ha
  obtain ⟨b, _, rfl, q2, ha⟩ := ha
  obtain ⟨c, _, rfl, q3, rfl⟩ := ha
  obtain ⟨n, rfl, _⟩ := q1.int ul_3
  obtain ⟨M, hM, hm⟩ := edges_in q2
  obtain ⟨x, rfl, _⟩ := q3.int ul_3
  exact tells_w hM hm (by omega)

set_option maxRecDepth 100000 in
theorem lifted (os : Os) (started : os.Started) (H : Type) (enc : TypeId × Value → H) :
    ReturnsInHanded {} Try.checked os 5 .any (Rows.graphTellsSpec.pre6 enc Try.prog Try.f5 Rows.graphTellsRow.domain false) (Rows.graphTellsSpec.post enc Try.prog Try.f5 false true false false) := by
  refine returnsInHanded_of_change_shaped (C := Try.checked) own started (by kernel_rfl) Try.func5
    (ChangeSpec.witness6 (enc := enc) (C := Try.checked) false ⟨#[], #[(.int .i64 0), (.slice none 0 0), (.int .i64 0)], []⟩ 8 (by kernel_rfl) (by kernel_rfl) (by kernel_rfl) (by kernel_rfl)) ?_
  intro W base args ds gs before hval hW _ _ hsh _
  have hW' := hW
  obtain ⟨p, q, hA0, hV, rfl, _, _⟩ := hW
  have hA : DataW.TrodAll enc Try.prog W 0 (fun _ => true) true Try.f5.params.toList args.toList ds p := hA0
  obtain ⟨rfl, rfl⟩ := trodVars_none hV
  have hlt := hA.lt
  have hblk := block_of_shaped' (P := Try.prog) hsh (k := Try.prog.globals.size) (Nat.le_refl _) (by kernel_rfl) (by kernel_rfl)
  refine (law_run (by kernel_rfl) progOk primsOk primsKeep Try.func5 rfl (by kernel_rfl) data hA (fun j t v h1 h2 => hval j t v (by simpa using h1) h2) hblk run).mono fun e W' ⟨he, bel⟩ => ?_
  subst he
  have hA' := trodAll_below (P := Try.prog) (by kernel_rfl) bel _ _ _ _ readable hA hlt
  have hds : ∃ d0 d1 d2, ds = [d0, d1, d2] := by
    rw [pars] at hA
    obtain ⟨_, _, d0, _, _, _, _, rfl, _, _, hA⟩ := trodAll_cons hA
    obtain ⟨_, _, d1, _, _, _, _, rfl, _, _, hA⟩ := trodAll_cons hA
    obtain ⟨_, _, d2, _, _, _, _, rfl, _, _, hA⟩ := trodAll_cons hA
    obtain ⟨_, rfl, _⟩ := trodAll_nil hA
    exact ⟨d0, d1, d2, rfl⟩
  obtain ⟨d0, d1, d2, rfl⟩ := hds
  exact ⟨_, rfl, _, _, _, [], _, [], hW', trodAll_mk1 (shut_bool Try.underlying4 _), hA', rfl, bel.frame _, fun h => by cases h⟩

theorem over : Rows.graphTellsRow.holds Try.pinned (OpenSpec.ofChange Rows.graphTellsSpec) :=
  OpenClaim.holds_of_wide 5 Try.f5 rfl rfl rfl rfl rfl rfl rfl ⟨rfl, rfl, rfl, rfl, rfl⟩ rfl rfl rfl rfl rfl (by kernel_rfl) Try.func5 (by kernel_rfl)
    (of_decide_eq_true (by kernel_rfl)) (by unfold Func.isWrapper; first | (rw [if_pos (by decide +kernel)]; kernel_rfl) | (rw [if_neg (by decide +kernel)]; exact ⟨rfl, rfl⟩))
    (fun os started H enc _ => lifted os started H enc)

end Go.Proofs.Ytnkbdbopiancmaa.LawGraphTells
namespace Go.Proofs.Ytnkbdbopiancmaa

/-- The statement. -/
theorem graphTells_proved : Rows.GraphTellsSaid := LawGraphTells.over
#print axioms graphTells_proved
end Go.Proofs.Ytnkbdbopiancmaa
