/- The law 'ClaimLoads' holds: for every list of records, it returns true, and writes nothing that was there. No conditions. -/
import Derived.Test.YtiigibhnjobcaaaRows
import Derived.Test.YtiigibhnjobcaaaC7
import Derived.Test.YtiigibhnjobcaaaAMLift
import Derived.WalkKit
import Derived.ProofKit
import Derived.OpenShut
import Derived.ShutString
import Derived.ChangeOld
import Derived.Below
set_option linter.unusedSimpArgs false
set_option linter.unusedVariables false
namespace Go.Proofs.Ytiigibhnjobcaaa.LawClaimLoads
open Go.ChangeShapes Go.WideShapes Go.ChangeAt Go.RowKit Go.AM

theorem own : ownKnob Try.prog.godebug = none := by kernel_rfl
theorem progOk : ProgOk Try.prog (fun _ => false) prims := progOk_of (by kernel_rfl)
theorem data : ∀ t ∈ Try.f3.params.toList, dataT Try.prog 10 t = true := by
  have h : (Try.f3.params.toList.all fun t => dataT Try.prog 10 t) = true := by kernel_rfl
  exact List.all_eq_true.1 h
theorem readable : ∀ t ∈ Try.f3.params.toList, Try.prog.readableRec t = true ∧ t < Try.prog.types.size := by
  have h : (Try.f3.params.toList.all fun t => Try.prog.readableRec t && decide (t < Try.prog.types.size)) = true := by kernel_rfl
  intro t ht
  have := List.all_eq_true.1 h t ht
  simpa using this
theorem pars : Try.f3.params.toList = [22] := by kernel_rfl
theorem run (h : AHeap) (xs : List Value) (hl : h.low = h.next) (ha : ADs Try.prog h Try.f3.params.toList xs) : CallW Try.prog prims (.func (.func 3) #[] #[]) xs h fun v _ => v = .bool true := by
  rw [pars] at ha
  obtain ⟨a, _, rfl, q1, rfl⟩ := ha
  have henc : ∀ cs, AD Try.prog h 53 cs → ∃ x : { r : Rec // RecOk h r }, cs = encR x.1 := by
    intro cs hcs
    obtain ⟨h3, hf⟩ := hcs.struct_fields (sz := 3) (l := [(0, 3, 1), (1, 3, 1), (2, 51, 1)]) (by kernel_rfl)
    match cs, h3 with
    | [a, b, c], _ =>
      obtain ⟨k, ek, _⟩ := (show AD Try.prog h 3 [a] from hf (0, 3, 1) (by simp)).int_inv ul_3
      obtain ⟨n, en, _⟩ := (show AD Try.prog h 3 [b] from hf (1, 3, 1) (by simp)).int_inv ul_3
      have hb : ∀ cs, AD Try.prog h 5 cs → ∃ x : { b : Int // 0 ≤ b ∧ b < 256 }, cs = [.int .u8 x.1] := by
        intro cs hcs
        obtain ⟨n, e, hw⟩ := hcs.int_inv ul_5
        refine ⟨⟨n, ?_⟩, e⟩
        simp [Lit.wf, IntKind.min, IntKind.max, IntKind.signed, IntKind.bits] at hw
        omega
      obtain ⟨v, bs, hv, hr⟩ := AM.AD.rd (e := 5) (sz := 1) ul_51 (by kernel_rfl) (fun x : { b : Int // 0 ≤ b ∧ b < 256 } => [.int .u8 x.1]) hb (show AD Try.prog h 51 [c] from hf (2, 51, 1) (by simp))
      cases ek; cases en; cases hv
      rw [AM.flatMap_one] at hr
      obtain ⟨sa, sc, es⟩ := hr.form
      refine ⟨⟨(k, n, c, bs.map (·.1)), ⟨sa, sc, by rw [List.length_map]; exact es⟩, ?_, fun b hb => ?_⟩, rfl⟩
      · rw [List.length_map, List.map_map]; exact hr
      · obtain ⟨x, _, rfl⟩ := List.mem_map.1 hb; exact x.2
  obtain ⟨v, l, hv, hr⟩ := AM.AD.rd (e := 53) (sz := 3) (t := 22) ul_22 (by kernel_rfl) (fun x : { r : Rec // RecOk h r } => encR x.1) henc (q1.cells1 (by kernel_rfl))
  cases hv
  have e : l.flatMap (fun x => encR x.1) = (l.map (·.1)).flatMap encR := by rw [List.flatMap_map]
  rw [e] at hr
  exact loadsLaw_w hr (by rw [List.length_map]) (fun r hr => by obtain ⟨x, _, rfl⟩ := List.mem_map.1 hr; exact x.2) (by omega)

set_option maxRecDepth 100000 in
theorem lifted (os : Os) (started : os.Started) (H : Type) (enc : TypeId × Value → H) :
    ReturnsInHanded {} Try.checked os 3 .any (Rows.claimLoadsSpec.pre6 enc Try.prog Try.f3 Rows.claimLoadsRow.domain false) (Rows.claimLoadsSpec.post enc Try.prog Try.f3 false true false false) := by
  refine returnsInHanded_of_change_shaped (C := Try.checked) own started (by kernel_rfl) Try.func3
    (ChangeSpec.witness6 (enc := enc) (C := Try.checked) false ⟨#[], #[(.slice none 0 0)], []⟩ 8 (by kernel_rfl) (by kernel_rfl) (by kernel_rfl) (by kernel_rfl)) ?_
  intro W base args ds gs before hval hW _ _ hsh _
  have hW' := hW
  obtain ⟨p, q, hA0, hV, rfl, _, _⟩ := hW
  have hA : DataW.TrodAll enc Try.prog W 0 (fun _ => true) true Try.f3.params.toList args.toList ds p := hA0
  obtain ⟨rfl, rfl⟩ := trodVars_none hV
  have hlt := hA.lt
  have hblk := block_of_shaped' (P := Try.prog) hsh (k := Try.prog.globals.size) (Nat.le_refl _) (by kernel_rfl) (by kernel_rfl)
  refine (law_run (by kernel_rfl) progOk primsOk primsKeep Try.func3 rfl (by kernel_rfl) data hA (fun j t v h1 h2 => hval j t v (by simpa using h1) h2) hblk run).mono fun e W' ⟨he, bel⟩ => ?_
  subst he
  have hA' := trodAll_below (P := Try.prog) (by kernel_rfl) bel _ _ _ _ readable hA hlt
  have hds : ∃ d0, ds = [d0] := by
    rw [pars] at hA
    obtain ⟨_, _, d0, _, _, _, _, rfl, _, _, hA⟩ := trodAll_cons hA
    obtain ⟨_, rfl, _⟩ := trodAll_nil hA
    exact ⟨d0, rfl⟩
  obtain ⟨d0, rfl⟩ := hds
  exact ⟨_, rfl, _, _, _, [], _, [], hW', trodAll_mk1 (shut_bool Try.underlying4 _), hA', rfl, bel.frame _, fun h => by cases h⟩

theorem over : Rows.claimLoadsRow.holds Try.pinned (OpenSpec.ofChange Rows.claimLoadsSpec) :=
  OpenClaim.holds_of_wide 3 Try.f3 rfl rfl rfl rfl rfl rfl rfl ⟨rfl, rfl, rfl, rfl, rfl⟩ rfl rfl rfl rfl rfl (by kernel_rfl) Try.func3 (by kernel_rfl)
    (of_decide_eq_true (by kernel_rfl)) (by unfold Func.isWrapper; first | (rw [if_pos (by decide +kernel)]; kernel_rfl) | (rw [if_neg (by decide +kernel)]; exact ⟨rfl, rfl⟩))
    (fun os started H enc _ => lifted os started H enc)

end Go.Proofs.Ytiigibhnjobcaaa.LawClaimLoads
namespace Go.Proofs.Ytiigibhnjobcaaa

/-- The statement. -/
theorem claimLoads_proved : Rows.ClaimLoadsSaid := LawClaimLoads.over
#print axioms claimLoads_proved
end Go.Proofs.Ytiigibhnjobcaaa
