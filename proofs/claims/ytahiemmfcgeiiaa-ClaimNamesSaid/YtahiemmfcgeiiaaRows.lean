/-
  No cell of these rows narrows 'for every input' (looked for: loops, veiled, ifaces, maps, wideKeys, modest, calm, conditions, laid).
  DERIVED. THE GIVEN ROWS OF THIS SEAT. 3 by the template 'for every input the law returns true; each argument reads behind the call as it read before'; 0 by the template 'total and deterministic' (their statements: YtahiemmfcgeiiaaTotals.lean).
  GIVEN WITH THE SEED: the statements are not yours to turn. If you find one false, say at which input.
  Laid BY PROGRAM, IN A SANDBOX (cutbox-rows.mjs): the forced cells as the released guide's own fill.sh prints them over the translation 149a0c67587294a8… (all of the seat's roots in one cut). By AI agents, Wed Nov 11 2026. No macro, syntax, notation, axiom, sorry.
-/
import Derived.Test.YtahiemmfcgeiiaaChecked
import GoSem.Claim
import GoSem.ClaimJoined
import GoSem.ClaimMapViews
import Derived.JoinedTies
import Derived.KernelRfl
namespace Go.Proofs.Ytahiemmfcgeiiaa
/- THE CELL 'sum', in the pinned program and in every row, IS THE sha256 OF THE DUMP (.gsa) THAT YtahiemmfcgeiiaaProg.lean LOADS. Nothing in Lean hashes anything: it is a label: what it is worth is what the hold of that sum in a sandbox is worth. -/
noncomputable def Try.pinned : Pinned := { name := "ytahiemmfcgeiiaa", sum := "149a0c67587294a86fde8310c2a9c06b579835b372a1295cdde0dae176cb7dd6", checked := Try.checked }
namespace Rows
def none {H : Type} : Left H := { results := [], args := [] }

/-- 'wagonwaylaw02.GraphNames': WHATEVER THE INPUT: true; the input reads as it did. -/
def graphNamesSpec : ChangeSpec := { name := "graphNames", fn := fun _ => fun
  | [] => { results := [.lit (.bool true)], args := [] }
  | _ => none }
def graphNamesRow : OpenClaim := { program := "ytahiemmfcgeiiaa", sum := "149a0c67587294a86fde8310c2a9c06b579835b372a1295cdde0dae176cb7dd6", func := "wagonway/wagonwaylaw02.GraphNames", spec := "graphNames", inPlace := ["slices.overlaps[int]"], unfollowed := true, recurses := true, apart := false }
def GraphNamesSaid : Prop := graphNamesRow.holds Try.pinned (OpenSpec.ofChange graphNamesSpec)

/-- ITS FALSE NEIGHBOUR: 'it returns false'. Refute it at one input. -/
def graphNamesWrong : ChangeSpec := { name := "graphNames", fn := fun _ => fun
  | [] => { results := [.lit (.bool false)], args := [] }
  | _ => none }
def GraphNamesWrongFalsely : Prop := graphNamesRow.holds Try.pinned (OpenSpec.ofChange graphNamesWrong)

/-- 'wagonwaylaw17.InheritNames': WHATEVER THE INPUT: true; the input reads as it did. -/
def inheritNamesSpec : ChangeSpec := { name := "inheritNames", fn := fun _ => fun
  | [] => { results := [.lit (.bool true)], args := [] }
  | _ => none }
def inheritNamesRow : OpenClaim := { program := "ytahiemmfcgeiiaa", sum := "149a0c67587294a86fde8310c2a9c06b579835b372a1295cdde0dae176cb7dd6", func := "wagonway/wagonwaylaw17.InheritNames", spec := "inheritNames", unfollowed := true, recurses := true, apart := false }
def InheritNamesSaid : Prop := inheritNamesRow.holds Try.pinned (OpenSpec.ofChange inheritNamesSpec)

/-- ITS FALSE NEIGHBOUR: 'it returns false'. Refute it at one input. -/
def inheritNamesWrong : ChangeSpec := { name := "inheritNames", fn := fun _ => fun
  | [] => { results := [.lit (.bool false)], args := [] }
  | _ => none }
def InheritNamesWrongFalsely : Prop := inheritNamesRow.holds Try.pinned (OpenSpec.ofChange inheritNamesWrong)

/-- 'wagonwaylaw15.ClaimNames': WHATEVER THE INPUT: true; the input reads as it did. -/
def claimNamesSpec : ChangeSpec := { name := "claimNames", fn := fun _ => fun
  | [] => { results := [.lit (.bool true)], args := [] }
  | _ => none }
def claimNamesRow : OpenClaim := { program := "ytahiemmfcgeiiaa", sum := "149a0c67587294a86fde8310c2a9c06b579835b372a1295cdde0dae176cb7dd6", func := "wagonway/wagonwaylaw15.ClaimNames", spec := "claimNames", inPlace := ["slices.overlaps[wagonway/api.Claim]"], unfollowed := true, recurses := true, apart := false }
def ClaimNamesSaid : Prop := claimNamesRow.holds Try.pinned (OpenSpec.ofChange claimNamesSpec)

/-- ITS FALSE NEIGHBOUR: 'it returns false'. Refute it at one input. -/
def claimNamesWrong : ChangeSpec := { name := "claimNames", fn := fun _ => fun
  | [] => { results := [.lit (.bool false)], args := [] }
  | _ => none }
def ClaimNamesWrongFalsely : Prop := claimNamesRow.holds Try.pinned (OpenSpec.ofChange claimNamesWrong)

/- THE SECOND FORM. 'bulk': how many values and letters a reading holds, each counted each time it is reached (what is shared counts as often as it is met; a slice's spare places count too). A statement '..UptoSaid' is the law's where the arguments, and the package variables that the reading takes, are together of bulk at most 1048576: NARROWER than '..Said'. Prove '..Said' where nothing that the law and all that it calls make is longer than what came in: it says more and counts as full. Else prove '..UptoSaid'. A law counts once. -/
mutual
def uptoBulk {H : Type} : DataW H → Nat
  | .lit (.string bytes) => bytes.length + 1
  | .lit _ => 1
  | .nil => 1
  | .ptr d => uptoBulk d + 1
  | .slice elems spare => uptoBulkAll elems + uptoBulkAll spare + 1
  | .agg parts => uptoBulkAll parts + 1
  | .iface _ d => uptoBulk d + 1
  | .map entries => uptoBulkEntries entries + 1
  | .held _ => 1
def uptoBulkAll {H : Type} : List (DataW H) → Nat
  | [] => 0
  | d :: r => uptoBulk d + uptoBulkAll r
def uptoBulkEntries {H : Type} : List (Lit × DataW H) → Nat
  | [] => 0
  | x :: r => uptoBulkEntry x + uptoBulkEntries r
def uptoBulkEntry {H : Type} : Lit × DataW H → Nat
  | (.string bytes, d) => bytes.length + uptoBulk d + 1
  | (_, d) => uptoBulk d + 1
 end
def uptoSmall : (H : Type) → List (DataW H) → Bool := fun _ ds => decide (uptoBulkAll ds ≤ 1048576)
def OpenSpec.upto (s : _root_.Go.ChangeSpec) : _root_.Go.OpenSpec := { _root_.Go.OpenSpec.ofChange s with cond := some uptoSmall }

/-- 'wagonwaylaw02.GraphNames', WHERE WHAT IT READS IS OF BULK AT MOST 1048576: true; the input reads as it did. -/
def graphNamesUptoRow : OpenClaim := { program := "ytahiemmfcgeiiaa", sum := "149a0c67587294a86fde8310c2a9c06b579835b372a1295cdde0dae176cb7dd6", func := "wagonway/wagonwaylaw02.GraphNames", spec := "graphNames", inPlace := ["slices.overlaps[int]"], unfollowed := true, recurses := true, apart := false, narrowed := true }
def GraphNamesUptoSaid : Prop := graphNamesUptoRow.holds Try.pinned (OpenSpec.upto graphNamesSpec)

/-- 'wagonwaylaw17.InheritNames', WHERE WHAT IT READS IS OF BULK AT MOST 1048576: true; the input reads as it did. -/
def inheritNamesUptoRow : OpenClaim := { program := "ytahiemmfcgeiiaa", sum := "149a0c67587294a86fde8310c2a9c06b579835b372a1295cdde0dae176cb7dd6", func := "wagonway/wagonwaylaw17.InheritNames", spec := "inheritNames", unfollowed := true, recurses := true, apart := false, narrowed := true }
def InheritNamesUptoSaid : Prop := inheritNamesUptoRow.holds Try.pinned (OpenSpec.upto inheritNamesSpec)

/-- 'wagonwaylaw15.ClaimNames', WHERE WHAT IT READS IS OF BULK AT MOST 1048576: true; the input reads as it did. -/
def claimNamesUptoRow : OpenClaim := { program := "ytahiemmfcgeiiaa", sum := "149a0c67587294a86fde8310c2a9c06b579835b372a1295cdde0dae176cb7dd6", func := "wagonway/wagonwaylaw15.ClaimNames", spec := "claimNames", inPlace := ["slices.overlaps[wagonway/api.Claim]"], unfollowed := true, recurses := true, apart := false, narrowed := true }
def ClaimNamesUptoSaid : Prop := claimNamesUptoRow.holds Try.pinned (OpenSpec.upto claimNamesSpec)

end Rows
end Go.Proofs.Ytahiemmfcgeiiaa
