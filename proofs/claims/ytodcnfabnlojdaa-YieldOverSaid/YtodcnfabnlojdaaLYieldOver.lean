/- The law 'YieldOver' holds: for every list of calls and every tick, it returns true, and writes nothing that was there. No conditions. -/
import Derived.Test.YtodcnfabnlojdaaRows
import Derived.Test.YtodcnfabnlojdaaAMLift
import Derived.WalkKit
import Derived.ProofKit
import Derived.OpenShut
import Derived.ShutString
import Derived.ChangeOld
import Derived.Below
import Derived.Test.YtodcnfabnlojdaaWb
set_option linter.unusedSimpArgs false
set_option linter.unusedVariables false
namespace Go.Proofs.Ytodcnfabnlojdaa.LawYieldOver
open Go.ChangeShapes Go.WideShapes Go.ChangeAt Go.RowKit Go.AM

theorem own : ownKnob Try.prog.godebug = none := by kernel_rfl
theorem progOk : ProgOk Try.prog (fun _ => false) prims := progOk_of (by kernel_rfl)
theorem data : ∀ t ∈ Try.f10.params.toList, dataT Try.prog 10 t = true := by
  have h : (Try.f10.params.toList.all fun t => dataT Try.prog 10 t) = true := by kernel_rfl
  exact List.all_eq_true.1 h
theorem readable : ∀ t ∈ Try.f10.params.toList, Try.prog.readableRec t = true ∧ t < Try.prog.types.size := by
  have h : (Try.f10.params.toList.all fun t => Try.prog.readableRec t && decide (t < Try.prog.types.size)) = true := by kernel_rfl
  intro t ht
  have := List.all_eq_true.1 h t ht
  simpa using this
theorem pars : Try.f10.params.toList = [54, 29] := by kernel_rfl
theorem run (h : AHeap) (xs : List Value) (hl : h.low = h.next) (ha : ADs Try.prog h Try.f10.params.toList xs) : CallW Try.prog prims (.func (.func 10) #[] #[]) xs h fun v _ => v = .bool true := by
  rw [pars] at ha
  obtain ⟨a, _, rfl, q1, b, _, rfl, q2, rfl⟩ := ha
  obtain ⟨now, rfl, hd⟩ := q2.int ul_29
  have henc : ∀ cs, AD Try.prog h 64 cs → ∃ x : { o : OpY // wfY o }, cs = encY x.1 := by
    intro cs hcs
    obtain ⟨ns, n1, n2, n3⟩ := hcs.struct_ints (ks := [.i64, .u64, .i64, .u64]) (by kernel_rfl)
    match ns, n1 with
    | [a, b, c, d], _ =>
      have hw := n3 (.u64, b) (by simp)
      have hv := n3 (.u64, d) (by simp)
      refine ⟨⟨(a, b, c, d), ?_⟩, n2⟩
      simp [Lit.wf, IntKind.min, IntKind.max, IntKind.signed, IntKind.bits] at hw hv
      unfold wfY
      simp only; omega
  obtain ⟨v, l, hv, hr⟩ := AM.AD.rd (α := { o : OpY // wfY o }) (e := 64) (sz := 4) (t := 54) ul_54 (by kernel_rfl) (fun x => encY x.1) henc (q1.cells1 (by kernel_rfl))
  cases hv
  have e : l.flatMap (fun x => encY x.1) = (l.map (·.1)).flatMap encY := by rw [List.flatMap_map]
  rw [e] at hr
  refine overLaw_w hr (by rw [List.length_map]) (fun o ho => by obtain ⟨x, _, rfl⟩ := List.mem_map.1 ho; exact x.2) ?_ (by omega)
  simp [Lit.wf, IntKind.min, IntKind.max, IntKind.signed, IntKind.bits] at hd
  omega

set_option maxRecDepth 100000 in
theorem lifted (os : Os) (started : os.Started) (H : Type) (enc : TypeId × Value → H) :
    ReturnsInHanded {} Try.checked os 10 .any (Rows.yieldOverSpec.pre6 enc Try.prog Try.f10 Rows.yieldOverRow.domain false) (Rows.yieldOverSpec.post enc Try.prog Try.f10 false true false false) := by
  refine returnsInHanded_of_change_shaped (C := Try.checked) own started (by kernel_rfl) Try.func10
    (ChangeSpec.witness6 (enc := enc) (C := Try.checked) false ⟨#[], #[(.slice none 0 0), (.int .u64 0)], []⟩ 8 (by kernel_rfl) (by kernel_rfl) (by kernel_rfl) (by kernel_rfl)) ?_
  intro W base args ds gs before hval hW _ _ hsh _
  have hW' := hW
  obtain ⟨p, q, hA0, hV, rfl, _, _⟩ := hW
  have hA : DataW.TrodAll enc Try.prog W 0 (fun _ => true) true Try.f10.params.toList args.toList ds p := hA0
  obtain ⟨rfl, rfl⟩ := trodVars_none hV
  have hlt := hA.lt
  have hblk := block_of_shaped' (P := Try.prog) hsh (k := Try.prog.globals.size) (Nat.le_refl _) (by kernel_rfl) (by kernel_rfl)
  refine (law_run (by kernel_rfl) progOk primsOk primsKeep Try.func10 rfl (by kernel_rfl) data hA (fun j t v h1 h2 => hval j t v (by simpa using h1) h2) hblk run).mono fun e W' ⟨he, bel⟩ => ?_
  subst he
  have hA' := trodAll_below (P := Try.prog) (by kernel_rfl) bel _ _ _ _ readable hA hlt
  have hds : ∃ d0 d1, ds = [d0, d1] := by
    rw [pars] at hA
    obtain ⟨_, _, d0, _, _, _, _, rfl, _, _, hA⟩ := trodAll_cons hA
    obtain ⟨_, _, d1, _, _, _, _, rfl, _, _, hA⟩ := trodAll_cons hA
    obtain ⟨_, rfl, _⟩ := trodAll_nil hA
    exact ⟨d0, d1, rfl⟩
  obtain ⟨d0, d1, rfl⟩ := hds
  exact ⟨_, rfl, _, _, _, [], _, [], hW', trodAll_mk1 (shut_bool Try.underlying4 _), hA', rfl, bel.frame _, fun h => by cases h⟩

theorem over : Rows.yieldOverRow.holds Try.pinned (OpenSpec.ofChange Rows.yieldOverSpec) :=
  OpenClaim.holds_of_wide 10 Try.f10 rfl rfl rfl rfl rfl rfl rfl ⟨rfl, rfl, rfl, rfl, rfl⟩ rfl rfl rfl rfl rfl (by kernel_rfl) Try.func10 (by kernel_rfl)
    (of_decide_eq_true (by kernel_rfl)) (by unfold Func.isWrapper; first | (rw [if_pos (by decide +kernel)]; kernel_rfl) | (rw [if_neg (by decide +kernel)]; exact ⟨rfl, rfl⟩))
    (fun os started H enc _ => lifted os started H enc)

end Go.Proofs.Ytodcnfabnlojdaa.LawYieldOver
namespace Go.Proofs.Ytodcnfabnlojdaa

/-- The statement. -/
theorem yieldOver_proved : Rows.YieldOverSaid := LawYieldOver.over
#print axioms yieldOver_proved
end Go.Proofs.Ytodcnfabnlojdaa
