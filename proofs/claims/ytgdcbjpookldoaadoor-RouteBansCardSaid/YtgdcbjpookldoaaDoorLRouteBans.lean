/- The law 'RouteBans' holds: for every text, cells and two lists of banned cells, it returns true, and writes nothing that was there; the one variable that its row lists is tied to the program's text. -/
import Derived.Test.YtgdcbjpookldoaaDoorRows
import Derived.Test.YtgdcbjpookldoaaDoorCards
import Derived.Test.YtgdcbjpookldoaaDoorTie
import Derived.LaidMore
import Derived.SevenTiedAt
import Derived.Stop.Joined
import Derived.HandedShaped
import Derived.Test.YtgdcbjpookldoaaDoorAMLift
import Derived.WalkKit
import Derived.ProofKit
import Derived.OpenShut
import Derived.ShutString
import Derived.ChangeOld
import Derived.Below
import Derived.Test.YtgdcbjpookldoaaDoorWf
set_option linter.unusedSimpArgs false
set_option linter.unusedVariables false
namespace Go.Proofs.YtgdcbjpookldoaaDoor.LawRouteBans
open Go.ChangeShapes Go.WideShapes Go.ChangeAt Go.RowKit Go.AM

theorem own : ownKnob Tryd.prog.godebug = none := by kernel_rfl
theorem progOk : ProgOk Tryd.prog (fun g => g == GW) prims := progOk_of (by kernel_rfl)
theorem data : ∀ t ∈ Tryd.f7.params.toList, dataT Tryd.prog 10 t = true := by
  have h : (Tryd.f7.params.toList.all fun t => dataT Tryd.prog 10 t) = true := by kernel_rfl
  exact List.all_eq_true.1 h
theorem readable : ∀ t ∈ Tryd.f7.params.toList, Tryd.prog.readableRec t = true ∧ t < Tryd.prog.types.size := by
  have h : (Tryd.f7.params.toList.all fun t => Tryd.prog.readableRec t && decide (t < Tryd.prog.types.size)) = true := by kernel_rfl
  intro t ht
  have := List.all_eq_true.1 h t ht
  simpa using this
theorem pars : Tryd.f7.params.toList = [9, 3, 3, 22, 22] := by kernel_rfl
theorem run (h : AHeap) (xs : List Value) (hl : h.low = h.next) (hw : h.get GW = some (.cells waysC 123 false)) (ha : ADs Tryd.prog h Tryd.f7.params.toList xs) : CallW Tryd.prog prims (.func (.func 7) #[] #[]) xs h fun v _ => v = .bool true := by
  rw [pars] at ha
  obtain ⟨a, _, rfl, q1, ha⟩ := ha
  obtain ⟨b, _, rfl, q2, ha⟩ := ha
  obtain ⟨c, _, rfl, q3, ha⟩ := ha
  obtain ⟨d, _, rfl, q4, ha⟩ := ha
  obtain ⟨e, _, rfl, q5, rfl⟩ := ha
  obtain ⟨s, rfl, hs⟩ := q1.string ul_9
  obtain ⟨l, rfl⟩ := AM.ba_eq s
  obtain ⟨x, rfl, _⟩ := q2.int ul_3
  obtain ⟨y, rfl, _⟩ := q3.int ul_3
  obtain ⟨v, B, hv, hB⟩ := AM.AD.rd (e := 3) (sz := 1) (t := 22) ul_22 (by kernel_rfl) (fun n : Int => [.int .i64 n]) (fun cs hcs => by obtain ⟨n, e, _⟩ := hcs.int_inv ul_3; exact ⟨n, e⟩) (q4.cells1 (by kernel_rfl))
  cases hv
  rw [AM.flatMap_one] at hB
  obtain ⟨w, M, hw2, hM⟩ := AM.AD.rd (e := 3) (sz := 1) (t := 22) ul_22 (by kernel_rfl) (fun n : Int => [.int .i64 n]) (fun cs hcs => by obtain ⟨n, e, _⟩ := hcs.int_inv ul_3; exact ⟨n, e⟩) (q5.cells1 (by kernel_rfl))
  cases hw2
  rw [AM.flatMap_one] at hM
  exact bansLaw_w l (by rw [AM.ba_size] at hs; first | exact hs | (simp only [maxLen] at hs; omega)) x y hB hM hw hl

abbrev laidL : List (String × DataW Unit) := [("wagonway/grid.ways", Rows.laid_wagonway_grid_ways)]
theorem gName : Tryd.prog.globalNamed "wagonway/grid.ways" = some 0 := by kernel_rfl
theorem gType : (Tryd.prog.globals[0]?).map (·.type) = some 141 := by kernel_rfl
theorem door_met (os : Os) (args : Array Value) : laidMetH Tryd.prog laidL ((World.doorLaid Tryd.prog 400 os).forCall (fun _ _ => 0) ⟨#[], args, []⟩).memory :=
  laidMetH_of_parts3 (fuel := 8) (laidMet_of_run' 8 (by kernel_rfl) (by kernel_rfl)) (by kernel_rfl) (by kernel_rfl)
theorem of_laid {W : World} (h : laidMetH Tryd.prog laidL W) : ∃ (C : Array Value) (e : TypeId) (fr : Nat × Nat), W.heap[0]? = some (.cells C e fr) ∧ C.toList = waysC := by
  obtain ⟨C, e, fr, h1, h2⟩ := laid_block (d := Rows.laid_wagonway_grid_ways) gName gType (by kernel_rfl) (by unfold Rows.laid_wagonway_grid_ways; simp [litD, litDs]) (by kernel_rfl) h
  refine ⟨C, e, fr, h1, ?_⟩
  rw [h2]
  unfold Rows.laid_wagonway_grid_ways
  simp [litD, litDs, waysC, wayV, encW]

set_option maxRecDepth 100000 in
theorem lifted (os : Os) (started : os.Started) (H : Type) (enc : TypeId × Value → H) :
    ReturnsInHanded {} Tryd.checked os 7 .any (fun w args => (Rows.routeBansSpec.pre enc Tryd.prog Tryd.f7 [] false w args ∧ laidMetH Tryd.prog laidL w) ∧ sizedMet enc Tryd.prog Tryd.f7 (OpenSpec.ofChange Rows.routeBansSpec) false w args)
      (Rows.routeBansSpec.post enc Tryd.prog Tryd.f7 false true false false) := by
  refine returnsInHanded_of_change_and (C := Tryd.checked) (X := fun w _ => laidMetH Tryd.prog laidL w) (fun _ _ _ hh h => h.of_heap hh) own started (by kernel_rfl) Tryd.func7
    (ChangeSpec.witness_shaped (enc := enc) (C := Tryd.checked) (os := os) (X := fun w _ => laidMetH Tryd.prog laidL w) false (World.doorLaid Tryd.prog 400 os) #[(.string ByteArray.empty), (.int .i64 0), (.int .i64 0), (.slice none 0 0), (.slice none 0 0)] 8 rfl (World.shaped_of_RefB (by kernel_rfl) (by kernel_rfl)) (by kernel_rfl) (by kernel_rfl) (by kernel_rfl) (door_met os _)) ?_
  intro W base args ds gs before hval hW _ _ hL _
  have hW' := hW
  obtain ⟨p, q, hA0, hV, rfl, _, _⟩ := hW
  have hA : DataW.TrodAll enc Tryd.prog W 0 (fun _ => true) true Tryd.f7.params.toList args.toList ds p := hA0
  obtain ⟨rfl, rfl⟩ := trodVars_none hV
  have hlt := hA.lt
  refine (law_runG (by kernel_rfl) progOk primsOk primsKeep Tryd.func7 rfl (by kernel_rfl) data hA (fun j t v h1 h2 => hval j t v (by simpa using h1) h2) 123 (by kernel_rfl) (of_laid hL) run).mono fun e W' ⟨he, bel⟩ => ?_
  subst he
  have hA' := trodAll_below (P := Tryd.prog) (by kernel_rfl) bel _ _ _ _ readable hA hlt
  have hds : ∃ d0 d1 d2 d3 d4, ds = [d0, d1, d2, d3, d4] := by
    rw [pars] at hA
    obtain ⟨_, _, d0, _, _, _, _, rfl, _, _, hA⟩ := trodAll_cons hA
    obtain ⟨_, _, d1, _, _, _, _, rfl, _, _, hA⟩ := trodAll_cons hA
    obtain ⟨_, _, d2, _, _, _, _, rfl, _, _, hA⟩ := trodAll_cons hA
    obtain ⟨_, _, d3, _, _, _, _, rfl, _, _, hA⟩ := trodAll_cons hA
    obtain ⟨_, _, d4, _, _, _, _, rfl, _, _, hA⟩ := trodAll_cons hA
    obtain ⟨_, rfl, _⟩ := trodAll_nil hA
    exact ⟨d0, d1, d2, d3, d4, rfl⟩
  obtain ⟨d0, d1, d2, d3, d4, rfl⟩ := hds
  exact ⟨_, rfl, _, _, _, [], _, [], hW', trodAll_mk1 (shut_bool Tryd.underlying4 _), hA', rfl, bel.frame _, fun h => by cases h⟩

theorem over : Rows.routeBansRow.holds Tryd.pinned (OpenSpec.ofChange Rows.routeBansSpec) :=
  OpenClaim.holds_of_wide 7 Tryd.f7 rfl rfl rfl rfl rfl rfl rfl ⟨rfl, rfl, rfl, rfl, rfl⟩ rfl rfl rfl rfl rfl (by kernel_rfl) Tryd.func7 (by kernel_rfl)
    (of_decide_eq_true (by kernel_rfl)) (by unfold Func.isWrapper; first | (rw [if_pos (by decide +kernel)]; kernel_rfl) | (rw [if_neg (by decide +kernel)]; exact ⟨rfl, rfl⟩))
    (fun os started H enc _ => lifted os started H enc)
theorem card : Rows.RouteBansCardSaid :=
  Claim7.holds_tied_plain_at .later [] [.data] true (true, "0cbbd63b5a3d5f4a59e5a13d2fcfc3feaae4d2d7b44f0d172a8175cd2a33a1ae") false
    over (fun _ h => by cases h) (by kernel_rfl) (fun _ h => by cases h) routeBans_row_tie rfl ⟨rfl, rfl⟩ (by kernel_rfl) rfl
    (fun f fn hf hfn => by
      obtain rfl : f = 7 := Option.some.inj ((show Tryd.prog.funcNamed "wagonway/wagonwaylaw04.RouteBans" = some 7 by kernel_rfl).symm.trans hf) |>.symm
      obtain rfl : fn = Tryd.f7 := (Option.some.inj (Tryd.func7.symm.trans hfn)).symm
      exact ⟨by kernel_rfl, fun j t ht => by
        rw [Tryd.params7] at ht
        have hm : t ∈ [9, 3, 3, 22, 22] := by simpa using Array.mem_of_getElem? ht
        have hall : ([9, 3, 3, 22, 22].all fun u => !Tryd.prog.wantsStandIn u) = true := by kernel_rfl
        exact (show Tryd.prog.wantsStandIn t = false by simpa using List.all_eq_true.1 hall t hm)⟩)
    (by kernel_rfl)

end Go.Proofs.YtgdcbjpookldoaaDoor.LawRouteBans
namespace Go.Proofs.YtgdcbjpookldoaaDoor

/-- The statement. -/
theorem routeBans_proved : Rows.RouteBansCardSaid := LawRouteBans.card
#print axioms routeBans_proved
end Go.Proofs.YtgdcbjpookldoaaDoor
