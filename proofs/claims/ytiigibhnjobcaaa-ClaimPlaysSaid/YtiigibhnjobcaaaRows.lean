/-
  No cell of these rows narrows 'for every input' (looked for: loops, veiled, ifaces, maps, wideKeys, modest, calm, conditions, laid).
  DERIVED. THE GIVEN ROWS OF THIS SEAT. 10 by the template 'for every input the law returns true; each argument reads behind the call as it read before'; 0 by the template 'total and deterministic' (their statements: YtiigibhnjobcaaaTotals.lean).
  GIVEN WITH THE SEED: the statements are not yours to turn. If you find one false, say at which input.
  Laid BY PROGRAM, IN A SANDBOX (cutbox-rows.mjs): the forced cells as the released guide's own fill.sh prints them over the translation 5d0fed2014266c9f… (all of the seat's roots in one cut). By AI agents, Wed Nov 11 2026. No macro, syntax, notation, axiom, sorry.
-/
import Derived.Test.YtiigibhnjobcaaaChecked
import GoSem.Claim
import GoSem.ClaimJoined
import GoSem.ClaimMapViews
import Derived.JoinedTies
import Derived.KernelRfl
namespace Go.Proofs.Ytiigibhnjobcaaa
/- THE CELL 'sum', in the pinned program and in every row, IS THE sha256 OF THE DUMP (.gsa) THAT YtiigibhnjobcaaaProg.lean LOADS. Nothing in Lean hashes anything: it is a label: what it is worth is what the hold of that sum in a sandbox is worth. -/
noncomputable def Try.pinned : Pinned := { name := "ytiigibhnjobcaaa", sum := "5d0fed2014266c9fa3f492ef5155c3f95d61e0aedf8fbe2b1f0803be545400a1", checked := Try.checked }
namespace Rows
def none {H : Type} : Left H := { results := [], args := [] }

/-- 'wagonwaylaw15.ClaimLoads': WHATEVER THE INPUT: true; the input reads as it did. -/
def claimLoadsSpec : ChangeSpec := { name := "claimLoads", fn := fun _ => fun
  | [d] => { results := [.lit (.bool true)], args := [d] }
  | _ => none }
def claimLoadsRow : OpenClaim := { program := "ytiigibhnjobcaaa", sum := "5d0fed2014266c9fa3f492ef5155c3f95d61e0aedf8fbe2b1f0803be545400a1", func := "wagonway/wagonwaylaw15.ClaimLoads", spec := "claimLoads", inPlace := ["slices.overlaps[wagonway/api.Claim]"], unfollowed := true, recurses := true, apart := false }
def ClaimLoadsSaid : Prop := claimLoadsRow.holds Try.pinned (OpenSpec.ofChange claimLoadsSpec)

/-- ITS FALSE NEIGHBOUR: 'it returns false'. Refute it at one input. -/
def claimLoadsWrong : ChangeSpec := { name := "claimLoads", fn := fun _ => fun
  | [d] => { results := [.lit (.bool false)], args := [d] }
  | _ => none }
def ClaimLoadsWrongFalsely : Prop := claimLoadsRow.holds Try.pinned (OpenSpec.ofChange claimLoadsWrong)

/-- 'wagonwaylaw15.ClaimFull': WHATEVER THE INPUT: true; the input reads as it did. -/
def claimFullSpec : ChangeSpec := { name := "claimFull", fn := fun _ => fun
  | [d] => { results := [.lit (.bool true)], args := [d] }
  | _ => none }
def claimFullRow : OpenClaim := { program := "ytiigibhnjobcaaa", sum := "5d0fed2014266c9fa3f492ef5155c3f95d61e0aedf8fbe2b1f0803be545400a1", func := "wagonway/wagonwaylaw15.ClaimFull", spec := "claimFull", inPlace := ["slices.overlaps[wagonway/api.Claim]"], unfollowed := true, recurses := true, apart := false }
def ClaimFullSaid : Prop := claimFullRow.holds Try.pinned (OpenSpec.ofChange claimFullSpec)

/-- ITS FALSE NEIGHBOUR: 'it returns false'. Refute it at one input. -/
def claimFullWrong : ChangeSpec := { name := "claimFull", fn := fun _ => fun
  | [d] => { results := [.lit (.bool false)], args := [d] }
  | _ => none }
def ClaimFullWrongFalsely : Prop := claimFullRow.holds Try.pinned (OpenSpec.ofChange claimFullWrong)

/-- 'wagonwaylaw15.ClaimHomes': WHATEVER THE INPUT: true; the input reads as it did. -/
def claimHomesSpec : ChangeSpec := { name := "claimHomes", fn := fun _ => fun
  | [d1, d2, d3] => { results := [.lit (.bool true)], args := [d1, d2, d3] }
  | _ => none }
def claimHomesRow : OpenClaim := { program := "ytiigibhnjobcaaa", sum := "5d0fed2014266c9fa3f492ef5155c3f95d61e0aedf8fbe2b1f0803be545400a1", func := "wagonway/wagonwaylaw15.ClaimHomes", spec := "claimHomes", inPlace := ["slices.overlaps[wagonway/api.Claim]"], unfollowed := true, recurses := true, apart := false }
def ClaimHomesSaid : Prop := claimHomesRow.holds Try.pinned (OpenSpec.ofChange claimHomesSpec)

/-- ITS FALSE NEIGHBOUR: 'it returns false'. Refute it at one input. -/
def claimHomesWrong : ChangeSpec := { name := "claimHomes", fn := fun _ => fun
  | [d1, d2, d3] => { results := [.lit (.bool false)], args := [d1, d2, d3] }
  | _ => none }
def ClaimHomesWrongFalsely : Prop := claimHomesRow.holds Try.pinned (OpenSpec.ofChange claimHomesWrong)

/-- 'wagonwaylaw15.ClaimBack': WHATEVER THE INPUT: true; the input reads as it did. -/
def claimBackSpec : ChangeSpec := { name := "claimBack", fn := fun _ => fun
  | [d] => { results := [.lit (.bool true)], args := [d] }
  | _ => none }
def claimBackRow : OpenClaim := { program := "ytiigibhnjobcaaa", sum := "5d0fed2014266c9fa3f492ef5155c3f95d61e0aedf8fbe2b1f0803be545400a1", func := "wagonway/wagonwaylaw15.ClaimBack", spec := "claimBack", inPlace := ["slices.overlaps[wagonway/api.Claim]"], unfollowed := true, recurses := true, apart := false }
def ClaimBackSaid : Prop := claimBackRow.holds Try.pinned (OpenSpec.ofChange claimBackSpec)

/-- ITS FALSE NEIGHBOUR: 'it returns false'. Refute it at one input. -/
def claimBackWrong : ChangeSpec := { name := "claimBack", fn := fun _ => fun
  | [d] => { results := [.lit (.bool false)], args := [d] }
  | _ => none }
def ClaimBackWrongFalsely : Prop := claimBackRow.holds Try.pinned (OpenSpec.ofChange claimBackWrong)

/-- 'wagonwaylaw15.ClaimPlays': WHATEVER THE INPUT: true; the input reads as it did. -/
def claimPlaysSpec : ChangeSpec := { name := "claimPlays", fn := fun _ => fun
  | [d] => { results := [.lit (.bool true)], args := [d] }
  | _ => none }
def claimPlaysRow : OpenClaim := { program := "ytiigibhnjobcaaa", sum := "5d0fed2014266c9fa3f492ef5155c3f95d61e0aedf8fbe2b1f0803be545400a1", func := "wagonway/wagonwaylaw15.ClaimPlays", spec := "claimPlays", inPlace := ["slices.overlaps[wagonway/api.Claim]"], unfollowed := true, recurses := true, apart := false }
def ClaimPlaysSaid : Prop := claimPlaysRow.holds Try.pinned (OpenSpec.ofChange claimPlaysSpec)

/-- ITS FALSE NEIGHBOUR: 'it returns false'. Refute it at one input. -/
def claimPlaysWrong : ChangeSpec := { name := "claimPlays", fn := fun _ => fun
  | [d] => { results := [.lit (.bool false)], args := [d] }
  | _ => none }
def ClaimPlaysWrongFalsely : Prop := claimPlaysRow.holds Try.pinned (OpenSpec.ofChange claimPlaysWrong)

/-- 'wagonwaylaw02.GraphJoints': WHATEVER THE INPUT: true; the input reads as it did. -/
def graphJointsSpec : ChangeSpec := { name := "graphJoints", fn := fun _ => fun
  | [d1, d2, d3] => { results := [.lit (.bool true)], args := [d1, d2, d3] }
  | _ => none }
def graphJointsRow : OpenClaim := { program := "ytiigibhnjobcaaa", sum := "5d0fed2014266c9fa3f492ef5155c3f95d61e0aedf8fbe2b1f0803be545400a1", func := "wagonway/wagonwaylaw02.GraphJoints", spec := "graphJoints", inPlace := ["slices.overlaps[int]"], unfollowed := true, recurses := true, apart := false }
def GraphJointsSaid : Prop := graphJointsRow.holds Try.pinned (OpenSpec.ofChange graphJointsSpec)

/-- ITS FALSE NEIGHBOUR: 'it returns false'. Refute it at one input. -/
def graphJointsWrong : ChangeSpec := { name := "graphJoints", fn := fun _ => fun
  | [d1, d2, d3] => { results := [.lit (.bool false)], args := [d1, d2, d3] }
  | _ => none }
def GraphJointsWrongFalsely : Prop := graphJointsRow.holds Try.pinned (OpenSpec.ofChange graphJointsWrong)

/-- 'wagonwaylaw02.GraphBack': WHATEVER THE INPUT: true; the input reads as it did. -/
def graphBackSpec : ChangeSpec := { name := "graphBack", fn := fun _ => fun
  | [d1, d2, d3] => { results := [.lit (.bool true)], args := [d1, d2, d3] }
  | _ => none }
def graphBackRow : OpenClaim := { program := "ytiigibhnjobcaaa", sum := "5d0fed2014266c9fa3f492ef5155c3f95d61e0aedf8fbe2b1f0803be545400a1", func := "wagonway/wagonwaylaw02.GraphBack", spec := "graphBack", inPlace := ["slices.overlaps[int]"], unfollowed := true, recurses := true, apart := false }
def GraphBackSaid : Prop := graphBackRow.holds Try.pinned (OpenSpec.ofChange graphBackSpec)

/-- ITS FALSE NEIGHBOUR: 'it returns false'. Refute it at one input. -/
def graphBackWrong : ChangeSpec := { name := "graphBack", fn := fun _ => fun
  | [d1, d2, d3] => { results := [.lit (.bool false)], args := [d1, d2, d3] }
  | _ => none }
def GraphBackWrongFalsely : Prop := graphBackRow.holds Try.pinned (OpenSpec.ofChange graphBackWrong)

/-- 'wagonwaylaw02.GraphTells': WHATEVER THE INPUT: true; the input reads as it did. -/
def graphTellsSpec : ChangeSpec := { name := "graphTells", fn := fun _ => fun
  | [d1, d2, d3] => { results := [.lit (.bool true)], args := [d1, d2, d3] }
  | _ => none }
def graphTellsRow : OpenClaim := { program := "ytiigibhnjobcaaa", sum := "5d0fed2014266c9fa3f492ef5155c3f95d61e0aedf8fbe2b1f0803be545400a1", func := "wagonway/wagonwaylaw02.GraphTells", spec := "graphTells", inPlace := ["slices.overlaps[int]"], unfollowed := true, recurses := true, apart := false }
def GraphTellsSaid : Prop := graphTellsRow.holds Try.pinned (OpenSpec.ofChange graphTellsSpec)

/-- ITS FALSE NEIGHBOUR: 'it returns false'. Refute it at one input. -/
def graphTellsWrong : ChangeSpec := { name := "graphTells", fn := fun _ => fun
  | [d1, d2, d3] => { results := [.lit (.bool false)], args := [d1, d2, d3] }
  | _ => none }
def GraphTellsWrongFalsely : Prop := graphTellsRow.holds Try.pinned (OpenSpec.ofChange graphTellsWrong)

/-- 'wagonwaylaw02.GraphSteps': WHATEVER THE INPUT: true; the input reads as it did. -/
def graphStepsSpec : ChangeSpec := { name := "graphSteps", fn := fun _ => fun
  | [d1, d2, d3] => { results := [.lit (.bool true)], args := [d1, d2, d3] }
  | _ => none }
def graphStepsRow : OpenClaim := { program := "ytiigibhnjobcaaa", sum := "5d0fed2014266c9fa3f492ef5155c3f95d61e0aedf8fbe2b1f0803be545400a1", func := "wagonway/wagonwaylaw02.GraphSteps", spec := "graphSteps", inPlace := ["slices.overlaps[int]"], unfollowed := true, recurses := true, apart := false }
def GraphStepsSaid : Prop := graphStepsRow.holds Try.pinned (OpenSpec.ofChange graphStepsSpec)

/-- ITS FALSE NEIGHBOUR: 'it returns false'. Refute it at one input. -/
def graphStepsWrong : ChangeSpec := { name := "graphSteps", fn := fun _ => fun
  | [d1, d2, d3] => { results := [.lit (.bool false)], args := [d1, d2, d3] }
  | _ => none }
def GraphStepsWrongFalsely : Prop := graphStepsRow.holds Try.pinned (OpenSpec.ofChange graphStepsWrong)

/-- 'wagonwaylaw02.GraphAdds': WHATEVER THE INPUT: true; the input reads as it did. -/
def graphAddsSpec : ChangeSpec := { name := "graphAdds", fn := fun _ => fun
  | [d1, d2, d3] => { results := [.lit (.bool true)], args := [d1, d2, d3] }
  | _ => none }
def graphAddsRow : OpenClaim := { program := "ytiigibhnjobcaaa", sum := "5d0fed2014266c9fa3f492ef5155c3f95d61e0aedf8fbe2b1f0803be545400a1", func := "wagonway/wagonwaylaw02.GraphAdds", spec := "graphAdds", inPlace := ["slices.overlaps[int]"], unfollowed := true, recurses := true, apart := false }
def GraphAddsSaid : Prop := graphAddsRow.holds Try.pinned (OpenSpec.ofChange graphAddsSpec)

/-- ITS FALSE NEIGHBOUR: 'it returns false'. Refute it at one input. -/
def graphAddsWrong : ChangeSpec := { name := "graphAdds", fn := fun _ => fun
  | [d1, d2, d3] => { results := [.lit (.bool false)], args := [d1, d2, d3] }
  | _ => none }
def GraphAddsWrongFalsely : Prop := graphAddsRow.holds Try.pinned (OpenSpec.ofChange graphAddsWrong)

/- THE SECOND FORM. 'bulk': how many values and letters a reading holds, each counted each time it is reached (what is shared counts as often as it is met; a slice's spare places count too). A statement '..UptoSaid' is the law's where the arguments, and the package variables that the reading takes, are together of bulk at most 1048576: NARROWER than '..Said'. Prove '..Said' where nothing that the law and all that it calls make is longer than what came in: it says more and counts as full. Else prove '..UptoSaid'. A law counts once. -/
mutual
def uptoBulk {H : Type} : DataW H → Nat
  | .lit (.string bytes) => bytes.length + 1
  | .lit _ => 1
  | .nil => 1
  | .ptr d => uptoBulk d + 1
  | .slice elems spare => uptoBulkAll elems + uptoBulkAll spare + 1
  | .agg parts => uptoBulkAll parts + 1
  | .iface _ d => uptoBulk d + 1
  | .map entries => uptoBulkEntries entries + 1
  | .held _ => 1
def uptoBulkAll {H : Type} : List (DataW H) → Nat
  | [] => 0
  | d :: r => uptoBulk d + uptoBulkAll r
def uptoBulkEntries {H : Type} : List (Lit × DataW H) → Nat
  | [] => 0
  | x :: r => uptoBulkEntry x + uptoBulkEntries r
def uptoBulkEntry {H : Type} : Lit × DataW H → Nat
  | (.string bytes, d) => bytes.length + uptoBulk d + 1
  | (_, d) => uptoBulk d + 1
 end
def uptoSmall : (H : Type) → List (DataW H) → Bool := fun _ ds => decide (uptoBulkAll ds ≤ 1048576)
def OpenSpec.upto (s : _root_.Go.ChangeSpec) : _root_.Go.OpenSpec := { _root_.Go.OpenSpec.ofChange s with cond := some uptoSmall }

/-- 'wagonwaylaw15.ClaimLoads', WHERE WHAT IT READS IS OF BULK AT MOST 1048576: true; the input reads as it did. -/
def claimLoadsUptoRow : OpenClaim := { program := "ytiigibhnjobcaaa", sum := "5d0fed2014266c9fa3f492ef5155c3f95d61e0aedf8fbe2b1f0803be545400a1", func := "wagonway/wagonwaylaw15.ClaimLoads", spec := "claimLoads", inPlace := ["slices.overlaps[wagonway/api.Claim]"], unfollowed := true, recurses := true, apart := false, narrowed := true }
def ClaimLoadsUptoSaid : Prop := claimLoadsUptoRow.holds Try.pinned (OpenSpec.upto claimLoadsSpec)

/-- 'wagonwaylaw15.ClaimFull', WHERE WHAT IT READS IS OF BULK AT MOST 1048576: true; the input reads as it did. -/
def claimFullUptoRow : OpenClaim := { program := "ytiigibhnjobcaaa", sum := "5d0fed2014266c9fa3f492ef5155c3f95d61e0aedf8fbe2b1f0803be545400a1", func := "wagonway/wagonwaylaw15.ClaimFull", spec := "claimFull", inPlace := ["slices.overlaps[wagonway/api.Claim]"], unfollowed := true, recurses := true, apart := false, narrowed := true }
def ClaimFullUptoSaid : Prop := claimFullUptoRow.holds Try.pinned (OpenSpec.upto claimFullSpec)

/-- 'wagonwaylaw15.ClaimHomes', WHERE WHAT IT READS IS OF BULK AT MOST 1048576: true; the input reads as it did. -/
def claimHomesUptoRow : OpenClaim := { program := "ytiigibhnjobcaaa", sum := "5d0fed2014266c9fa3f492ef5155c3f95d61e0aedf8fbe2b1f0803be545400a1", func := "wagonway/wagonwaylaw15.ClaimHomes", spec := "claimHomes", inPlace := ["slices.overlaps[wagonway/api.Claim]"], unfollowed := true, recurses := true, apart := false, narrowed := true }
def ClaimHomesUptoSaid : Prop := claimHomesUptoRow.holds Try.pinned (OpenSpec.upto claimHomesSpec)

/-- 'wagonwaylaw15.ClaimBack', WHERE WHAT IT READS IS OF BULK AT MOST 1048576: true; the input reads as it did. -/
def claimBackUptoRow : OpenClaim := { program := "ytiigibhnjobcaaa", sum := "5d0fed2014266c9fa3f492ef5155c3f95d61e0aedf8fbe2b1f0803be545400a1", func := "wagonway/wagonwaylaw15.ClaimBack", spec := "claimBack", inPlace := ["slices.overlaps[wagonway/api.Claim]"], unfollowed := true, recurses := true, apart := false, narrowed := true }
def ClaimBackUptoSaid : Prop := claimBackUptoRow.holds Try.pinned (OpenSpec.upto claimBackSpec)

/-- 'wagonwaylaw15.ClaimPlays', WHERE WHAT IT READS IS OF BULK AT MOST 1048576: true; the input reads as it did. -/
def claimPlaysUptoRow : OpenClaim := { program := "ytiigibhnjobcaaa", sum := "5d0fed2014266c9fa3f492ef5155c3f95d61e0aedf8fbe2b1f0803be545400a1", func := "wagonway/wagonwaylaw15.ClaimPlays", spec := "claimPlays", inPlace := ["slices.overlaps[wagonway/api.Claim]"], unfollowed := true, recurses := true, apart := false, narrowed := true }
def ClaimPlaysUptoSaid : Prop := claimPlaysUptoRow.holds Try.pinned (OpenSpec.upto claimPlaysSpec)

/-- 'wagonwaylaw02.GraphJoints', WHERE WHAT IT READS IS OF BULK AT MOST 1048576: true; the input reads as it did. -/
def graphJointsUptoRow : OpenClaim := { program := "ytiigibhnjobcaaa", sum := "5d0fed2014266c9fa3f492ef5155c3f95d61e0aedf8fbe2b1f0803be545400a1", func := "wagonway/wagonwaylaw02.GraphJoints", spec := "graphJoints", inPlace := ["slices.overlaps[int]"], unfollowed := true, recurses := true, apart := false, narrowed := true }
def GraphJointsUptoSaid : Prop := graphJointsUptoRow.holds Try.pinned (OpenSpec.upto graphJointsSpec)

/-- 'wagonwaylaw02.GraphBack', WHERE WHAT IT READS IS OF BULK AT MOST 1048576: true; the input reads as it did. -/
def graphBackUptoRow : OpenClaim := { program := "ytiigibhnjobcaaa", sum := "5d0fed2014266c9fa3f492ef5155c3f95d61e0aedf8fbe2b1f0803be545400a1", func := "wagonway/wagonwaylaw02.GraphBack", spec := "graphBack", inPlace := ["slices.overlaps[int]"], unfollowed := true, recurses := true, apart := false, narrowed := true }
def GraphBackUptoSaid : Prop := graphBackUptoRow.holds Try.pinned (OpenSpec.upto graphBackSpec)

/-- 'wagonwaylaw02.GraphTells', WHERE WHAT IT READS IS OF BULK AT MOST 1048576: true; the input reads as it did. -/
def graphTellsUptoRow : OpenClaim := { program := "ytiigibhnjobcaaa", sum := "5d0fed2014266c9fa3f492ef5155c3f95d61e0aedf8fbe2b1f0803be545400a1", func := "wagonway/wagonwaylaw02.GraphTells", spec := "graphTells", inPlace := ["slices.overlaps[int]"], unfollowed := true, recurses := true, apart := false, narrowed := true }
def GraphTellsUptoSaid : Prop := graphTellsUptoRow.holds Try.pinned (OpenSpec.upto graphTellsSpec)

/-- 'wagonwaylaw02.GraphSteps', WHERE WHAT IT READS IS OF BULK AT MOST 1048576: true; the input reads as it did. -/
def graphStepsUptoRow : OpenClaim := { program := "ytiigibhnjobcaaa", sum := "5d0fed2014266c9fa3f492ef5155c3f95d61e0aedf8fbe2b1f0803be545400a1", func := "wagonway/wagonwaylaw02.GraphSteps", spec := "graphSteps", inPlace := ["slices.overlaps[int]"], unfollowed := true, recurses := true, apart := false, narrowed := true }
def GraphStepsUptoSaid : Prop := graphStepsUptoRow.holds Try.pinned (OpenSpec.upto graphStepsSpec)

/-- 'wagonwaylaw02.GraphAdds', WHERE WHAT IT READS IS OF BULK AT MOST 1048576: true; the input reads as it did. -/
def graphAddsUptoRow : OpenClaim := { program := "ytiigibhnjobcaaa", sum := "5d0fed2014266c9fa3f492ef5155c3f95d61e0aedf8fbe2b1f0803be545400a1", func := "wagonway/wagonwaylaw02.GraphAdds", spec := "graphAdds", inPlace := ["slices.overlaps[int]"], unfollowed := true, recurses := true, apart := false, narrowed := true }
def GraphAddsUptoSaid : Prop := graphAddsUptoRow.holds Try.pinned (OpenSpec.upto graphAddsSpec)

end Rows
end Go.Proofs.Ytiigibhnjobcaaa
