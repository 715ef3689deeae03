/-
  NARROWER THAN 'FOR EVERY INPUT', by the rows' own cells (each row's printed sentence says how): GridWalled: laid · GridTurned: laid · GridEdges: laid · GridBack: laid.
  DERIVED. THE GIVEN ROWS OF THIS SEAT. 4 by the template 'for every input the law returns true; each argument reads behind the call as it read before'; 0 by the template 'total and deterministic' (their statements: YtdimjemgganegaaDoorTotals.lean).
  GIVEN WITH THE SEED: the statements are not yours to turn. If you find one false, say at which input.
  Laid BY PROGRAM, IN A SANDBOX (cutbox-rows.mjs): the forced cells as the released guide's own fill.sh prints them over the translation a6e6de612ebcc114… (all of the seat's roots in one cut). By AI agents, Wed Nov 11 2026. No macro, syntax, notation, axiom, sorry.
-/
import Derived.Test.YtdimjemgganegaaDoorChecked
import GoSem.Claim
import GoSem.ClaimJoined
import GoSem.ClaimMapViews
import Derived.JoinedTies
import Derived.KernelRfl
namespace Go.Proofs.YtdimjemgganegaaDoor
/- THE CELL 'sum', in the pinned program and in every row, IS THE sha256 OF THE DUMP (.gsa) THAT YtdimjemgganegaaDoorProg.lean LOADS. Nothing in Lean hashes anything: it is a label: what it is worth is what the hold of that sum in a sandbox is worth. -/
noncomputable def Tryd.pinned : Pinned := { name := "ytdimjemgganegaadoor", sum := "a6e6de612ebcc1140fd3f34875a9839c9b999835cb5e1a2318180765f28f0efd", checked := Tryd.checked }
namespace Rows
def none {H : Type} : Left H := { results := [], args := [] }

/- WHAT THE LISTED PACKAGE-LEVEL VARIABLES READ AS WHEN THE CALL BEGINS. Each datum BY PROGRAM (the guide's laid-datum.mjs) off the statement by which the dump's own 'gosem.cut.vars' lays the variable. In a bare row this is a premise. The card (YtdimjemgganegaaDoorCards.lean) ties it to the program's text. -/
def laid_wagonway_grid_ways {H : Type} : DataW H := .agg [.agg [.lit (.int .u8 94), .lit (.int .u8 118), .lit (.int .i64 (-1)), .lit (.int .i64 0)], .agg [.lit (.int .u8 60), .lit (.int .u8 62), .lit (.int .i64 0), .lit (.int .i64 (-1))], .agg [.lit (.int .u8 62), .lit (.int .u8 60), .lit (.int .i64 0), .lit (.int .i64 1)], .agg [.lit (.int .u8 118), .lit (.int .u8 94), .lit (.int .i64 1), .lit (.int .i64 0)]]

/-- 'wagonwaylaw01.GridWalled': WHATEVER THE INPUT: true; the input reads as it did. -/
def gridWalledSpec : ChangeSpec := { name := "gridWalled", fn := fun _ => fun
  | [d] => { results := [.lit (.bool true)], args := [d] }
  | _ => none }
def gridWalledRow : OpenClaim := { program := "ytdimjemgganegaadoor", sum := "a6e6de612ebcc1140fd3f34875a9839c9b999835cb5e1a2318180765f28f0efd", func := "wagonway/wagonwaylaw01.GridWalled", spec := "gridWalled", inPlace := ["internal/bytealg.IndexByteString", "sync/atomic.LoadUint32", "(*internal/sync.Mutex).Lock", "internal/race.Disable", "sync/atomic.CompareAndSwapInt32", "internal/race.Enable", "internal/race.Acquire", "(*internal/sync.Mutex).lockSlow", "internal/sync.runtime_canSpin", "internal/sync.runtime_doSpin", "internal/sync.throw", "internal/sync.runtime_nanotime", "internal/sync.runtime_SemacquireMutex", "sync/atomic.AddInt32", "(*internal/sync.Mutex).Unlock", "internal/race.ReleaseMerge", "(*internal/sync.Mutex).unlockSlow", "internal/sync.fatal", "internal/sync.runtime_Semrelease", "sync/atomic.StoreUint32"], unfollowed := true, recurses := true, named := ["wagonway/grid.ways"], apart := false, laid := [("wagonway/grid.ways", laid_wagonway_grid_ways)] }
def GridWalledSaid : Prop := gridWalledRow.holds Tryd.pinned (OpenSpec.ofChange gridWalledSpec)

/-- ITS FALSE NEIGHBOUR: 'it returns false'. Refute it at one input. -/
def gridWalledWrong : ChangeSpec := { name := "gridWalled", fn := fun _ => fun
  | [d] => { results := [.lit (.bool false)], args := [d] }
  | _ => none }
def GridWalledWrongFalsely : Prop := gridWalledRow.holds Tryd.pinned (OpenSpec.ofChange gridWalledWrong)

/-- 'wagonwaylaw01.GridTurned': WHATEVER THE INPUT: true; the input reads as it did. -/
def gridTurnedSpec : ChangeSpec := { name := "gridTurned", fn := fun _ => fun
  | [d] => { results := [.lit (.bool true)], args := [d] }
  | _ => none }
def gridTurnedRow : OpenClaim := { program := "ytdimjemgganegaadoor", sum := "a6e6de612ebcc1140fd3f34875a9839c9b999835cb5e1a2318180765f28f0efd", func := "wagonway/wagonwaylaw01.GridTurned", spec := "gridTurned", inPlace := ["internal/bytealg.IndexByteString", "sync/atomic.LoadUint32", "(*internal/sync.Mutex).Lock", "internal/race.Disable", "sync/atomic.CompareAndSwapInt32", "internal/race.Enable", "internal/race.Acquire", "(*internal/sync.Mutex).lockSlow", "internal/sync.runtime_canSpin", "internal/sync.runtime_doSpin", "internal/sync.throw", "internal/sync.runtime_nanotime", "internal/sync.runtime_SemacquireMutex", "sync/atomic.AddInt32", "(*internal/sync.Mutex).Unlock", "internal/race.ReleaseMerge", "(*internal/sync.Mutex).unlockSlow", "internal/sync.fatal", "internal/sync.runtime_Semrelease", "sync/atomic.StoreUint32"], unfollowed := true, recurses := true, named := ["wagonway/grid.ways"], apart := false, laid := [("wagonway/grid.ways", laid_wagonway_grid_ways)] }
def GridTurnedSaid : Prop := gridTurnedRow.holds Tryd.pinned (OpenSpec.ofChange gridTurnedSpec)

/-- ITS FALSE NEIGHBOUR: 'it returns false'. Refute it at one input. -/
def gridTurnedWrong : ChangeSpec := { name := "gridTurned", fn := fun _ => fun
  | [d] => { results := [.lit (.bool false)], args := [d] }
  | _ => none }
def GridTurnedWrongFalsely : Prop := gridTurnedRow.holds Tryd.pinned (OpenSpec.ofChange gridTurnedWrong)

/-- 'wagonwaylaw01.GridEdges': WHATEVER THE INPUT: true; the input reads as it did. -/
def gridEdgesSpec : ChangeSpec := { name := "gridEdges", fn := fun _ => fun
  | [d1, d2, d3] => { results := [.lit (.bool true)], args := [d1, d2, d3] }
  | _ => none }
def gridEdgesRow : OpenClaim := { program := "ytdimjemgganegaadoor", sum := "a6e6de612ebcc1140fd3f34875a9839c9b999835cb5e1a2318180765f28f0efd", func := "wagonway/wagonwaylaw01.GridEdges", spec := "gridEdges", inPlace := ["internal/bytealg.IndexByteString", "sync/atomic.LoadUint32", "(*internal/sync.Mutex).Lock", "internal/race.Disable", "sync/atomic.CompareAndSwapInt32", "internal/race.Enable", "internal/race.Acquire", "(*internal/sync.Mutex).lockSlow", "internal/sync.runtime_canSpin", "internal/sync.runtime_doSpin", "internal/sync.throw", "internal/sync.runtime_nanotime", "internal/sync.runtime_SemacquireMutex", "sync/atomic.AddInt32", "(*internal/sync.Mutex).Unlock", "internal/race.ReleaseMerge", "(*internal/sync.Mutex).unlockSlow", "internal/sync.fatal", "internal/sync.runtime_Semrelease", "sync/atomic.StoreUint32"], unfollowed := true, recurses := true, named := ["wagonway/grid.ways"], apart := false, laid := [("wagonway/grid.ways", laid_wagonway_grid_ways)] }
def GridEdgesSaid : Prop := gridEdgesRow.holds Tryd.pinned (OpenSpec.ofChange gridEdgesSpec)

/-- ITS FALSE NEIGHBOUR: 'it returns false'. Refute it at one input. -/
def gridEdgesWrong : ChangeSpec := { name := "gridEdges", fn := fun _ => fun
  | [d1, d2, d3] => { results := [.lit (.bool false)], args := [d1, d2, d3] }
  | _ => none }
def GridEdgesWrongFalsely : Prop := gridEdgesRow.holds Tryd.pinned (OpenSpec.ofChange gridEdgesWrong)

/-- 'wagonwaylaw01.GridBack': WHATEVER THE INPUT: true; the input reads as it did. -/
def gridBackSpec : ChangeSpec := { name := "gridBack", fn := fun _ => fun
  | [d] => { results := [.lit (.bool true)], args := [d] }
  | _ => none }
def gridBackRow : OpenClaim := { program := "ytdimjemgganegaadoor", sum := "a6e6de612ebcc1140fd3f34875a9839c9b999835cb5e1a2318180765f28f0efd", func := "wagonway/wagonwaylaw01.GridBack", spec := "gridBack", inPlace := ["internal/bytealg.IndexByteString", "sync/atomic.LoadUint32", "(*internal/sync.Mutex).Lock", "internal/race.Disable", "sync/atomic.CompareAndSwapInt32", "internal/race.Enable", "internal/race.Acquire", "(*internal/sync.Mutex).lockSlow", "internal/sync.runtime_canSpin", "internal/sync.runtime_doSpin", "internal/sync.throw", "internal/sync.runtime_nanotime", "internal/sync.runtime_SemacquireMutex", "sync/atomic.AddInt32", "(*internal/sync.Mutex).Unlock", "internal/race.ReleaseMerge", "(*internal/sync.Mutex).unlockSlow", "internal/sync.fatal", "internal/sync.runtime_Semrelease", "sync/atomic.StoreUint32", "internal/abi.NoEscape"], unfollowed := true, recurses := true, named := ["wagonway/grid.ways"], apart := false, laid := [("wagonway/grid.ways", laid_wagonway_grid_ways)] }
def GridBackSaid : Prop := gridBackRow.holds Tryd.pinned (OpenSpec.ofChange gridBackSpec)

/-- ITS FALSE NEIGHBOUR: 'it returns false'. Refute it at one input. -/
def gridBackWrong : ChangeSpec := { name := "gridBack", fn := fun _ => fun
  | [d] => { results := [.lit (.bool false)], args := [d] }
  | _ => none }
def GridBackWrongFalsely : Prop := gridBackRow.holds Tryd.pinned (OpenSpec.ofChange gridBackWrong)

/- THE SECOND FORM. 'bulk': how many values and letters a reading holds, each counted each time it is reached (what is shared counts as often as it is met; a slice's spare places count too). A statement '..UptoSaid' is the law's where the arguments, and the package variables that the reading takes, are together of bulk at most 1048576: NARROWER than '..Said'. Prove '..Said' where nothing that the law and all that it calls make is longer than what came in: it says more and counts as full. Else prove '..UptoSaid'. A law counts once. -/
mutual
def uptoBulk {H : Type} : DataW H → Nat
  | .lit (.string bytes) => bytes.length + 1
  | .lit _ => 1
  | .nil => 1
  | .ptr d => uptoBulk d + 1
  | .slice elems spare => uptoBulkAll elems + uptoBulkAll spare + 1
  | .agg parts => uptoBulkAll parts + 1
  | .iface _ d => uptoBulk d + 1
  | .map entries => uptoBulkEntries entries + 1
  | .held _ => 1
def uptoBulkAll {H : Type} : List (DataW H) → Nat
  | [] => 0
  | d :: r => uptoBulk d + uptoBulkAll r
def uptoBulkEntries {H : Type} : List (Lit × DataW H) → Nat
  | [] => 0
  | x :: r => uptoBulkEntry x + uptoBulkEntries r
def uptoBulkEntry {H : Type} : Lit × DataW H → Nat
  | (.string bytes, d) => bytes.length + uptoBulk d + 1
  | (_, d) => uptoBulk d + 1
 end
def uptoSmall : (H : Type) → List (DataW H) → Bool := fun _ ds => decide (uptoBulkAll ds ≤ 1048576)
def OpenSpec.upto (s : _root_.Go.ChangeSpec) : _root_.Go.OpenSpec := { _root_.Go.OpenSpec.ofChange s with cond := some uptoSmall }

/-- 'wagonwaylaw01.GridWalled', WHERE WHAT IT READS IS OF BULK AT MOST 1048576: true; the input reads as it did. -/
def gridWalledUptoRow : OpenClaim := { program := "ytdimjemgganegaadoor", sum := "a6e6de612ebcc1140fd3f34875a9839c9b999835cb5e1a2318180765f28f0efd", func := "wagonway/wagonwaylaw01.GridWalled", spec := "gridWalled", inPlace := ["internal/bytealg.IndexByteString", "sync/atomic.LoadUint32", "(*internal/sync.Mutex).Lock", "internal/race.Disable", "sync/atomic.CompareAndSwapInt32", "internal/race.Enable", "internal/race.Acquire", "(*internal/sync.Mutex).lockSlow", "internal/sync.runtime_canSpin", "internal/sync.runtime_doSpin", "internal/sync.throw", "internal/sync.runtime_nanotime", "internal/sync.runtime_SemacquireMutex", "sync/atomic.AddInt32", "(*internal/sync.Mutex).Unlock", "internal/race.ReleaseMerge", "(*internal/sync.Mutex).unlockSlow", "internal/sync.fatal", "internal/sync.runtime_Semrelease", "sync/atomic.StoreUint32"], unfollowed := true, recurses := true, named := ["wagonway/grid.ways"], apart := false, laid := [("wagonway/grid.ways", laid_wagonway_grid_ways)], narrowed := true }
def GridWalledUptoSaid : Prop := gridWalledUptoRow.holds Tryd.pinned (OpenSpec.upto gridWalledSpec)

/-- 'wagonwaylaw01.GridTurned', WHERE WHAT IT READS IS OF BULK AT MOST 1048576: true; the input reads as it did. -/
def gridTurnedUptoRow : OpenClaim := { program := "ytdimjemgganegaadoor", sum := "a6e6de612ebcc1140fd3f34875a9839c9b999835cb5e1a2318180765f28f0efd", func := "wagonway/wagonwaylaw01.GridTurned", spec := "gridTurned", inPlace := ["internal/bytealg.IndexByteString", "sync/atomic.LoadUint32", "(*internal/sync.Mutex).Lock", "internal/race.Disable", "sync/atomic.CompareAndSwapInt32", "internal/race.Enable", "internal/race.Acquire", "(*internal/sync.Mutex).lockSlow", "internal/sync.runtime_canSpin", "internal/sync.runtime_doSpin", "internal/sync.throw", "internal/sync.runtime_nanotime", "internal/sync.runtime_SemacquireMutex", "sync/atomic.AddInt32", "(*internal/sync.Mutex).Unlock", "internal/race.ReleaseMerge", "(*internal/sync.Mutex).unlockSlow", "internal/sync.fatal", "internal/sync.runtime_Semrelease", "sync/atomic.StoreUint32"], unfollowed := true, recurses := true, named := ["wagonway/grid.ways"], apart := false, laid := [("wagonway/grid.ways", laid_wagonway_grid_ways)], narrowed := true }
def GridTurnedUptoSaid : Prop := gridTurnedUptoRow.holds Tryd.pinned (OpenSpec.upto gridTurnedSpec)

/-- 'wagonwaylaw01.GridEdges', WHERE WHAT IT READS IS OF BULK AT MOST 1048576: true; the input reads as it did. -/
def gridEdgesUptoRow : OpenClaim := { program := "ytdimjemgganegaadoor", sum := "a6e6de612ebcc1140fd3f34875a9839c9b999835cb5e1a2318180765f28f0efd", func := "wagonway/wagonwaylaw01.GridEdges", spec := "gridEdges", inPlace := ["internal/bytealg.IndexByteString", "sync/atomic.LoadUint32", "(*internal/sync.Mutex).Lock", "internal/race.Disable", "sync/atomic.CompareAndSwapInt32", "internal/race.Enable", "internal/race.Acquire", "(*internal/sync.Mutex).lockSlow", "internal/sync.runtime_canSpin", "internal/sync.runtime_doSpin", "internal/sync.throw", "internal/sync.runtime_nanotime", "internal/sync.runtime_SemacquireMutex", "sync/atomic.AddInt32", "(*internal/sync.Mutex).Unlock", "internal/race.ReleaseMerge", "(*internal/sync.Mutex).unlockSlow", "internal/sync.fatal", "internal/sync.runtime_Semrelease", "sync/atomic.StoreUint32"], unfollowed := true, recurses := true, named := ["wagonway/grid.ways"], apart := false, laid := [("wagonway/grid.ways", laid_wagonway_grid_ways)], narrowed := true }
def GridEdgesUptoSaid : Prop := gridEdgesUptoRow.holds Tryd.pinned (OpenSpec.upto gridEdgesSpec)

/-- 'wagonwaylaw01.GridBack', WHERE WHAT IT READS IS OF BULK AT MOST 1048576: true; the input reads as it did. -/
def gridBackUptoRow : OpenClaim := { program := "ytdimjemgganegaadoor", sum := "a6e6de612ebcc1140fd3f34875a9839c9b999835cb5e1a2318180765f28f0efd", func := "wagonway/wagonwaylaw01.GridBack", spec := "gridBack", inPlace := ["internal/bytealg.IndexByteString", "sync/atomic.LoadUint32", "(*internal/sync.Mutex).Lock", "internal/race.Disable", "sync/atomic.CompareAndSwapInt32", "internal/race.Enable", "internal/race.Acquire", "(*internal/sync.Mutex).lockSlow", "internal/sync.runtime_canSpin", "internal/sync.runtime_doSpin", "internal/sync.throw", "internal/sync.runtime_nanotime", "internal/sync.runtime_SemacquireMutex", "sync/atomic.AddInt32", "(*internal/sync.Mutex).Unlock", "internal/race.ReleaseMerge", "(*internal/sync.Mutex).unlockSlow", "internal/sync.fatal", "internal/sync.runtime_Semrelease", "sync/atomic.StoreUint32", "internal/abi.NoEscape"], unfollowed := true, recurses := true, named := ["wagonway/grid.ways"], apart := false, laid := [("wagonway/grid.ways", laid_wagonway_grid_ways)], narrowed := true }
def GridBackUptoSaid : Prop := gridBackUptoRow.holds Tryd.pinned (OpenSpec.upto gridBackSpec)

end Rows
end Go.Proofs.YtdimjemgganegaaDoor
