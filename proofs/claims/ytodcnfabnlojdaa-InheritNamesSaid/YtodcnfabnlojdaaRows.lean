/-
  No cell of these rows narrows 'for every input' (looked for: loops, veiled, ifaces, maps, wideKeys, modest, calm, conditions, laid).
  DERIVED. THE GIVEN ROWS OF THIS SEAT. 11 by the template 'for every input the law returns true; each argument reads behind the call as it read before'; 0 by the template 'total and deterministic' (their statements: YtodcnfabnlojdaaTotals.lean).
  GIVEN WITH THE SEED: the statements are not yours to turn. If you find one false, say at which input.
  Laid BY PROGRAM, IN A SANDBOX (cutbox-rows.mjs): the forced cells as the released guide's own fill.sh prints them over the translation bdd28dcce7217600… (all of the seat's roots in one cut). By AI agents, Wed Nov 11 2026. No macro, syntax, notation, axiom, sorry.
-/
import Derived.Test.YtodcnfabnlojdaaChecked
import GoSem.Claim
import GoSem.ClaimJoined
import GoSem.ClaimMapViews
import Derived.JoinedTies
import Derived.KernelRfl
namespace Go.Proofs.Ytodcnfabnlojdaa
/- THE CELL 'sum', in the pinned program and in every row, IS THE sha256 OF THE DUMP (.gsa) THAT YtodcnfabnlojdaaProg.lean LOADS. Nothing in Lean hashes anything: it is a label: what it is worth is what the hold of that sum in a sandbox is worth. -/
noncomputable def Try.pinned : Pinned := { name := "ytodcnfabnlojdaa", sum := "bdd28dcce7217600bf0c229fe80d758c1a01077cae4d9de46f12aa7bcae712fe", checked := Try.checked }
namespace Rows
def none {H : Type} : Left H := { results := [], args := [] }

/-- 'wagonwaylaw17.InheritAll': WHATEVER THE INPUT: true; the input reads as it did. -/
def inheritAllSpec : ChangeSpec := { name := "inheritAll", fn := fun _ => fun
  | [d1, d2] => { results := [.lit (.bool true)], args := [d1, d2] }
  | _ => none }
def inheritAllRow : OpenClaim := { program := "ytodcnfabnlojdaa", sum := "bdd28dcce7217600bf0c229fe80d758c1a01077cae4d9de46f12aa7bcae712fe", func := "wagonway/wagonwaylaw17.InheritAll", spec := "inheritAll", unfollowed := true, recurses := true, apart := false }
def InheritAllSaid : Prop := inheritAllRow.holds Try.pinned (OpenSpec.ofChange inheritAllSpec)

/-- ITS FALSE NEIGHBOUR: 'it returns false'. Refute it at one input. -/
def inheritAllWrong : ChangeSpec := { name := "inheritAll", fn := fun _ => fun
  | [d1, d2] => { results := [.lit (.bool false)], args := [d1, d2] }
  | _ => none }
def InheritAllWrongFalsely : Prop := inheritAllRow.holds Try.pinned (OpenSpec.ofChange inheritAllWrong)

/-- 'wagonwaylaw18.YieldSpans': WHATEVER THE INPUT: true; the input reads as it did. -/
def yieldSpansSpec : ChangeSpec := { name := "yieldSpans", fn := fun _ => fun
  | [d1, d2, d3] => { results := [.lit (.bool true)], args := [d1, d2, d3] }
  | _ => none }
def yieldSpansRow : OpenClaim := { program := "ytodcnfabnlojdaa", sum := "bdd28dcce7217600bf0c229fe80d758c1a01077cae4d9de46f12aa7bcae712fe", func := "wagonway/wagonwaylaw18.YieldSpans", spec := "yieldSpans", unfollowed := true, recurses := true, apart := false }
def YieldSpansSaid : Prop := yieldSpansRow.holds Try.pinned (OpenSpec.ofChange yieldSpansSpec)

/-- ITS FALSE NEIGHBOUR: 'it returns false'. Refute it at one input. -/
def yieldSpansWrong : ChangeSpec := { name := "yieldSpans", fn := fun _ => fun
  | [d1, d2, d3] => { results := [.lit (.bool false)], args := [d1, d2, d3] }
  | _ => none }
def YieldSpansWrongFalsely : Prop := yieldSpansRow.holds Try.pinned (OpenSpec.ofChange yieldSpansWrong)

/-- 'wagonwaylaw18.YieldGrows': WHATEVER THE INPUT: true; the input reads as it did. -/
def yieldGrowsSpec : ChangeSpec := { name := "yieldGrows", fn := fun _ => fun
  | [d1, d2, d3] => { results := [.lit (.bool true)], args := [d1, d2, d3] }
  | _ => none }
def yieldGrowsRow : OpenClaim := { program := "ytodcnfabnlojdaa", sum := "bdd28dcce7217600bf0c229fe80d758c1a01077cae4d9de46f12aa7bcae712fe", func := "wagonway/wagonwaylaw18.YieldGrows", spec := "yieldGrows", unfollowed := true, recurses := true, apart := false }
def YieldGrowsSaid : Prop := yieldGrowsRow.holds Try.pinned (OpenSpec.ofChange yieldGrowsSpec)

/-- ITS FALSE NEIGHBOUR: 'it returns false'. Refute it at one input. -/
def yieldGrowsWrong : ChangeSpec := { name := "yieldGrows", fn := fun _ => fun
  | [d1, d2, d3] => { results := [.lit (.bool false)], args := [d1, d2, d3] }
  | _ => none }
def YieldGrowsWrongFalsely : Prop := yieldGrowsRow.holds Try.pinned (OpenSpec.ofChange yieldGrowsWrong)

/-- 'wagonwaylaw17.InheritTraces': WHATEVER THE INPUT: true; the input reads as it did. -/
def inheritTracesSpec : ChangeSpec := { name := "inheritTraces", fn := fun _ => fun
  | [d1, d2] => { results := [.lit (.bool true)], args := [d1, d2] }
  | _ => none }
def inheritTracesRow : OpenClaim := { program := "ytodcnfabnlojdaa", sum := "bdd28dcce7217600bf0c229fe80d758c1a01077cae4d9de46f12aa7bcae712fe", func := "wagonway/wagonwaylaw17.InheritTraces", spec := "inheritTraces", unfollowed := true, recurses := true, apart := false }
def InheritTracesSaid : Prop := inheritTracesRow.holds Try.pinned (OpenSpec.ofChange inheritTracesSpec)

/-- ITS FALSE NEIGHBOUR: 'it returns false'. Refute it at one input. -/
def inheritTracesWrong : ChangeSpec := { name := "inheritTraces", fn := fun _ => fun
  | [d1, d2] => { results := [.lit (.bool false)], args := [d1, d2] }
  | _ => none }
def InheritTracesWrongFalsely : Prop := inheritTracesRow.holds Try.pinned (OpenSpec.ofChange inheritTracesWrong)

/-- 'wagonwaylaw17.InheritGreatest': WHATEVER THE INPUT: true; the input reads as it did. -/
def inheritGreatestSpec : ChangeSpec := { name := "inheritGreatest", fn := fun _ => fun
  | [d] => { results := [.lit (.bool true)], args := [d] }
  | _ => none }
def inheritGreatestRow : OpenClaim := { program := "ytodcnfabnlojdaa", sum := "bdd28dcce7217600bf0c229fe80d758c1a01077cae4d9de46f12aa7bcae712fe", func := "wagonway/wagonwaylaw17.InheritGreatest", spec := "inheritGreatest", unfollowed := true, recurses := true, apart := false }
def InheritGreatestSaid : Prop := inheritGreatestRow.holds Try.pinned (OpenSpec.ofChange inheritGreatestSpec)

/-- ITS FALSE NEIGHBOUR: 'it returns false'. Refute it at one input. -/
def inheritGreatestWrong : ChangeSpec := { name := "inheritGreatest", fn := fun _ => fun
  | [d] => { results := [.lit (.bool false)], args := [d] }
  | _ => none }
def InheritGreatestWrongFalsely : Prop := inheritGreatestRow.holds Try.pinned (OpenSpec.ofChange inheritGreatestWrong)

/-- 'wagonwaylaw18.YieldBans': WHATEVER THE INPUT: true; the input reads as it did. -/
def yieldBansSpec : ChangeSpec := { name := "yieldBans", fn := fun _ => fun
  | [d] => { results := [.lit (.bool true)], args := [d] }
  | _ => none }
def yieldBansRow : OpenClaim := { program := "ytodcnfabnlojdaa", sum := "bdd28dcce7217600bf0c229fe80d758c1a01077cae4d9de46f12aa7bcae712fe", func := "wagonway/wagonwaylaw18.YieldBans", spec := "yieldBans", unfollowed := true, recurses := true, apart := false }
def YieldBansSaid : Prop := yieldBansRow.holds Try.pinned (OpenSpec.ofChange yieldBansSpec)

/-- ITS FALSE NEIGHBOUR: 'it returns false'. Refute it at one input. -/
def yieldBansWrong : ChangeSpec := { name := "yieldBans", fn := fun _ => fun
  | [d] => { results := [.lit (.bool false)], args := [d] }
  | _ => none }
def YieldBansWrongFalsely : Prop := yieldBansRow.holds Try.pinned (OpenSpec.ofChange yieldBansWrong)

/-- 'wagonwaylaw17.InheritPlays': WHATEVER THE INPUT: true; the input reads as it did. -/
def inheritPlaysSpec : ChangeSpec := { name := "inheritPlays", fn := fun _ => fun
  | [d] => { results := [.lit (.bool true)], args := [d] }
  | _ => none }
def inheritPlaysRow : OpenClaim := { program := "ytodcnfabnlojdaa", sum := "bdd28dcce7217600bf0c229fe80d758c1a01077cae4d9de46f12aa7bcae712fe", func := "wagonway/wagonwaylaw17.InheritPlays", spec := "inheritPlays", unfollowed := true, recurses := true, apart := false }
def InheritPlaysSaid : Prop := inheritPlaysRow.holds Try.pinned (OpenSpec.ofChange inheritPlaysSpec)

/-- ITS FALSE NEIGHBOUR: 'it returns false'. Refute it at one input. -/
def inheritPlaysWrong : ChangeSpec := { name := "inheritPlays", fn := fun _ => fun
  | [d] => { results := [.lit (.bool false)], args := [d] }
  | _ => none }
def InheritPlaysWrongFalsely : Prop := inheritPlaysRow.holds Try.pinned (OpenSpec.ofChange inheritPlaysWrong)

/-- 'wagonwaylaw18.YieldOver': WHATEVER THE INPUT: true; the input reads as it did. -/
def yieldOverSpec : ChangeSpec := { name := "yieldOver", fn := fun _ => fun
  | [d1, d2] => { results := [.lit (.bool true)], args := [d1, d2] }
  | _ => none }
def yieldOverRow : OpenClaim := { program := "ytodcnfabnlojdaa", sum := "bdd28dcce7217600bf0c229fe80d758c1a01077cae4d9de46f12aa7bcae712fe", func := "wagonway/wagonwaylaw18.YieldOver", spec := "yieldOver", unfollowed := true, recurses := true, apart := false }
def YieldOverSaid : Prop := yieldOverRow.holds Try.pinned (OpenSpec.ofChange yieldOverSpec)

/-- ITS FALSE NEIGHBOUR: 'it returns false'. Refute it at one input. -/
def yieldOverWrong : ChangeSpec := { name := "yieldOver", fn := fun _ => fun
  | [d1, d2] => { results := [.lit (.bool false)], args := [d1, d2] }
  | _ => none }
def YieldOverWrongFalsely : Prop := yieldOverRow.holds Try.pinned (OpenSpec.ofChange yieldOverWrong)

/-- 'wagonwaylaw18.YieldFirst': WHATEVER THE INPUT: true; the input reads as it did. -/
def yieldFirstSpec : ChangeSpec := { name := "yieldFirst", fn := fun _ => fun
  | [d] => { results := [.lit (.bool true)], args := [d] }
  | _ => none }
def yieldFirstRow : OpenClaim := { program := "ytodcnfabnlojdaa", sum := "bdd28dcce7217600bf0c229fe80d758c1a01077cae4d9de46f12aa7bcae712fe", func := "wagonway/wagonwaylaw18.YieldFirst", spec := "yieldFirst", unfollowed := true, recurses := true, apart := false }
def YieldFirstSaid : Prop := yieldFirstRow.holds Try.pinned (OpenSpec.ofChange yieldFirstSpec)

/-- ITS FALSE NEIGHBOUR: 'it returns false'. Refute it at one input. -/
def yieldFirstWrong : ChangeSpec := { name := "yieldFirst", fn := fun _ => fun
  | [d] => { results := [.lit (.bool false)], args := [d] }
  | _ => none }
def YieldFirstWrongFalsely : Prop := yieldFirstRow.holds Try.pinned (OpenSpec.ofChange yieldFirstWrong)

/-- 'wagonwaylaw17.InheritFlows': WHATEVER THE INPUT: true; the input reads as it did. -/
def inheritFlowsSpec : ChangeSpec := { name := "inheritFlows", fn := fun _ => fun
  | [d1, d2] => { results := [.lit (.bool true)], args := [d1, d2] }
  | _ => none }
def inheritFlowsRow : OpenClaim := { program := "ytodcnfabnlojdaa", sum := "bdd28dcce7217600bf0c229fe80d758c1a01077cae4d9de46f12aa7bcae712fe", func := "wagonway/wagonwaylaw17.InheritFlows", spec := "inheritFlows", unfollowed := true, recurses := true, apart := false }
def InheritFlowsSaid : Prop := inheritFlowsRow.holds Try.pinned (OpenSpec.ofChange inheritFlowsSpec)

/-- ITS FALSE NEIGHBOUR: 'it returns false'. Refute it at one input. -/
def inheritFlowsWrong : ChangeSpec := { name := "inheritFlows", fn := fun _ => fun
  | [d1, d2] => { results := [.lit (.bool false)], args := [d1, d2] }
  | _ => none }
def InheritFlowsWrongFalsely : Prop := inheritFlowsRow.holds Try.pinned (OpenSpec.ofChange inheritFlowsWrong)

/-- 'wagonwaylaw17.InheritNames': WHATEVER THE INPUT: true; the input reads as it did. -/
def inheritNamesSpec : ChangeSpec := { name := "inheritNames", fn := fun _ => fun
  | [] => { results := [.lit (.bool true)], args := [] }
  | _ => none }
def inheritNamesRow : OpenClaim := { program := "ytodcnfabnlojdaa", sum := "bdd28dcce7217600bf0c229fe80d758c1a01077cae4d9de46f12aa7bcae712fe", func := "wagonway/wagonwaylaw17.InheritNames", spec := "inheritNames", unfollowed := true, recurses := true, apart := false }
def InheritNamesSaid : Prop := inheritNamesRow.holds Try.pinned (OpenSpec.ofChange inheritNamesSpec)

/-- ITS FALSE NEIGHBOUR: 'it returns false'. Refute it at one input. -/
def inheritNamesWrong : ChangeSpec := { name := "inheritNames", fn := fun _ => fun
  | [] => { results := [.lit (.bool false)], args := [] }
  | _ => none }
def InheritNamesWrongFalsely : Prop := inheritNamesRow.holds Try.pinned (OpenSpec.ofChange inheritNamesWrong)

/- THE SECOND FORM. 'bulk': how many values and letters a reading holds, each counted each time it is reached (what is shared counts as often as it is met; a slice's spare places count too). A statement '..UptoSaid' is the law's where the arguments, and the package variables that the reading takes, are together of bulk at most 1048576: NARROWER than '..Said'. Prove '..Said' where nothing that the law and all that it calls make is longer than what came in: it says more and counts as full. Else prove '..UptoSaid'. A law counts once. -/
mutual
def uptoBulk {H : Type} : DataW H → Nat
  | .lit (.string bytes) => bytes.length + 1
  | .lit _ => 1
  | .nil => 1
  | .ptr d => uptoBulk d + 1
  | .slice elems spare => uptoBulkAll elems + uptoBulkAll spare + 1
  | .agg parts => uptoBulkAll parts + 1
  | .iface _ d => uptoBulk d + 1
  | .map entries => uptoBulkEntries entries + 1
  | .held _ => 1
def uptoBulkAll {H : Type} : List (DataW H) → Nat
  | [] => 0
  | d :: r => uptoBulk d + uptoBulkAll r
def uptoBulkEntries {H : Type} : List (Lit × DataW H) → Nat
  | [] => 0
  | x :: r => uptoBulkEntry x + uptoBulkEntries r
def uptoBulkEntry {H : Type} : Lit × DataW H → Nat
  | (.string bytes, d) => bytes.length + uptoBulk d + 1
  | (_, d) => uptoBulk d + 1
 end
def uptoSmall : (H : Type) → List (DataW H) → Bool := fun _ ds => decide (uptoBulkAll ds ≤ 1048576)
def OpenSpec.upto (s : _root_.Go.ChangeSpec) : _root_.Go.OpenSpec := { _root_.Go.OpenSpec.ofChange s with cond := some uptoSmall }

/-- 'wagonwaylaw17.InheritAll', WHERE WHAT IT READS IS OF BULK AT MOST 1048576: true; the input reads as it did. -/
def inheritAllUptoRow : OpenClaim := { program := "ytodcnfabnlojdaa", sum := "bdd28dcce7217600bf0c229fe80d758c1a01077cae4d9de46f12aa7bcae712fe", func := "wagonway/wagonwaylaw17.InheritAll", spec := "inheritAll", unfollowed := true, recurses := true, apart := false, narrowed := true }
def InheritAllUptoSaid : Prop := inheritAllUptoRow.holds Try.pinned (OpenSpec.upto inheritAllSpec)

/-- 'wagonwaylaw18.YieldSpans', WHERE WHAT IT READS IS OF BULK AT MOST 1048576: true; the input reads as it did. -/
def yieldSpansUptoRow : OpenClaim := { program := "ytodcnfabnlojdaa", sum := "bdd28dcce7217600bf0c229fe80d758c1a01077cae4d9de46f12aa7bcae712fe", func := "wagonway/wagonwaylaw18.YieldSpans", spec := "yieldSpans", unfollowed := true, recurses := true, apart := false, narrowed := true }
def YieldSpansUptoSaid : Prop := yieldSpansUptoRow.holds Try.pinned (OpenSpec.upto yieldSpansSpec)

/-- 'wagonwaylaw18.YieldGrows', WHERE WHAT IT READS IS OF BULK AT MOST 1048576: true; the input reads as it did. -/
def yieldGrowsUptoRow : OpenClaim := { program := "ytodcnfabnlojdaa", sum := "bdd28dcce7217600bf0c229fe80d758c1a01077cae4d9de46f12aa7bcae712fe", func := "wagonway/wagonwaylaw18.YieldGrows", spec := "yieldGrows", unfollowed := true, recurses := true, apart := false, narrowed := true }
def YieldGrowsUptoSaid : Prop := yieldGrowsUptoRow.holds Try.pinned (OpenSpec.upto yieldGrowsSpec)

/-- 'wagonwaylaw17.InheritTraces', WHERE WHAT IT READS IS OF BULK AT MOST 1048576: true; the input reads as it did. -/
def inheritTracesUptoRow : OpenClaim := { program := "ytodcnfabnlojdaa", sum := "bdd28dcce7217600bf0c229fe80d758c1a01077cae4d9de46f12aa7bcae712fe", func := "wagonway/wagonwaylaw17.InheritTraces", spec := "inheritTraces", unfollowed := true, recurses := true, apart := false, narrowed := true }
def InheritTracesUptoSaid : Prop := inheritTracesUptoRow.holds Try.pinned (OpenSpec.upto inheritTracesSpec)

/-- 'wagonwaylaw17.InheritGreatest', WHERE WHAT IT READS IS OF BULK AT MOST 1048576: true; the input reads as it did. -/
def inheritGreatestUptoRow : OpenClaim := { program := "ytodcnfabnlojdaa", sum := "bdd28dcce7217600bf0c229fe80d758c1a01077cae4d9de46f12aa7bcae712fe", func := "wagonway/wagonwaylaw17.InheritGreatest", spec := "inheritGreatest", unfollowed := true, recurses := true, apart := false, narrowed := true }
def InheritGreatestUptoSaid : Prop := inheritGreatestUptoRow.holds Try.pinned (OpenSpec.upto inheritGreatestSpec)

/-- 'wagonwaylaw18.YieldBans', WHERE WHAT IT READS IS OF BULK AT MOST 1048576: true; the input reads as it did. -/
def yieldBansUptoRow : OpenClaim := { program := "ytodcnfabnlojdaa", sum := "bdd28dcce7217600bf0c229fe80d758c1a01077cae4d9de46f12aa7bcae712fe", func := "wagonway/wagonwaylaw18.YieldBans", spec := "yieldBans", unfollowed := true, recurses := true, apart := false, narrowed := true }
def YieldBansUptoSaid : Prop := yieldBansUptoRow.holds Try.pinned (OpenSpec.upto yieldBansSpec)

/-- 'wagonwaylaw17.InheritPlays', WHERE WHAT IT READS IS OF BULK AT MOST 1048576: true; the input reads as it did. -/
def inheritPlaysUptoRow : OpenClaim := { program := "ytodcnfabnlojdaa", sum := "bdd28dcce7217600bf0c229fe80d758c1a01077cae4d9de46f12aa7bcae712fe", func := "wagonway/wagonwaylaw17.InheritPlays", spec := "inheritPlays", unfollowed := true, recurses := true, apart := false, narrowed := true }
def InheritPlaysUptoSaid : Prop := inheritPlaysUptoRow.holds Try.pinned (OpenSpec.upto inheritPlaysSpec)

/-- 'wagonwaylaw18.YieldOver', WHERE WHAT IT READS IS OF BULK AT MOST 1048576: true; the input reads as it did. -/
def yieldOverUptoRow : OpenClaim := { program := "ytodcnfabnlojdaa", sum := "bdd28dcce7217600bf0c229fe80d758c1a01077cae4d9de46f12aa7bcae712fe", func := "wagonway/wagonwaylaw18.YieldOver", spec := "yieldOver", unfollowed := true, recurses := true, apart := false, narrowed := true }
def YieldOverUptoSaid : Prop := yieldOverUptoRow.holds Try.pinned (OpenSpec.upto yieldOverSpec)

/-- 'wagonwaylaw18.YieldFirst', WHERE WHAT IT READS IS OF BULK AT MOST 1048576: true; the input reads as it did. -/
def yieldFirstUptoRow : OpenClaim := { program := "ytodcnfabnlojdaa", sum := "bdd28dcce7217600bf0c229fe80d758c1a01077cae4d9de46f12aa7bcae712fe", func := "wagonway/wagonwaylaw18.YieldFirst", spec := "yieldFirst", unfollowed := true, recurses := true, apart := false, narrowed := true }
def YieldFirstUptoSaid : Prop := yieldFirstUptoRow.holds Try.pinned (OpenSpec.upto yieldFirstSpec)

/-- 'wagonwaylaw17.InheritFlows', WHERE WHAT IT READS IS OF BULK AT MOST 1048576: true; the input reads as it did. -/
def inheritFlowsUptoRow : OpenClaim := { program := "ytodcnfabnlojdaa", sum := "bdd28dcce7217600bf0c229fe80d758c1a01077cae4d9de46f12aa7bcae712fe", func := "wagonway/wagonwaylaw17.InheritFlows", spec := "inheritFlows", unfollowed := true, recurses := true, apart := false, narrowed := true }
def InheritFlowsUptoSaid : Prop := inheritFlowsUptoRow.holds Try.pinned (OpenSpec.upto inheritFlowsSpec)

/-- 'wagonwaylaw17.InheritNames', WHERE WHAT IT READS IS OF BULK AT MOST 1048576: true; the input reads as it did. -/
def inheritNamesUptoRow : OpenClaim := { program := "ytodcnfabnlojdaa", sum := "bdd28dcce7217600bf0c229fe80d758c1a01077cae4d9de46f12aa7bcae712fe", func := "wagonway/wagonwaylaw17.InheritNames", spec := "inheritNames", unfollowed := true, recurses := true, apart := false, narrowed := true }
def InheritNamesUptoSaid : Prop := inheritNamesUptoRow.holds Try.pinned (OpenSpec.upto inheritNamesSpec)

end Rows
end Go.Proofs.Ytodcnfabnlojdaa
