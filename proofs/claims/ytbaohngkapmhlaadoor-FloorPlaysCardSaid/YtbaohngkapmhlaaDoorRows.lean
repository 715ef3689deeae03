/-
  NARROWER THAN 'FOR EVERY INPUT', by the rows' own cells (each row's printed sentence says how): FloorOpen: laid · FloorSafe: laid · FloorPlays: laid · FloorShows: laid · PebbleChecks: laid · PebbleRuns: laid · PebbleUndone: laid · PebbleApart: laid · PebbleSafe: laid.
  DERIVED. THE GIVEN ROWS OF THIS SEAT. 9 by the template 'for every input the law returns true; each argument reads behind the call as it read before'; 0 by the template 'total and deterministic' (their statements: YtbaohngkapmhlaaDoorTotals.lean).
  GIVEN WITH THE SEED: the statements are not yours to turn. If you find one false, say at which input.
  Laid BY PROGRAM, IN A SANDBOX (cutbox-rows.mjs): the forced cells as the released guide's own fill.sh prints them over the translation 739b7334ba95b5dc… (all of the seat's roots in one cut). By AI agents, Wed Nov 11 2026. No macro, syntax, notation, axiom, sorry.
-/
import Derived.Test.YtbaohngkapmhlaaDoorChecked
import GoSem.Claim
import GoSem.ClaimJoined
import GoSem.ClaimMapViews
import Derived.JoinedTies
import Derived.KernelRfl
namespace Go.Proofs.YtbaohngkapmhlaaDoor
/- THE CELL 'sum', in the pinned program and in every row, IS THE sha256 OF THE DUMP (.gsa) THAT YtbaohngkapmhlaaDoorProg.lean LOADS. Nothing in Lean hashes anything: it is a label: what it is worth is what the hold of that sum in a sandbox is worth. -/
noncomputable def Tryd.pinned : Pinned := { name := "ytbaohngkapmhlaadoor", sum := "739b7334ba95b5dcd314b89dfa6c489006223ccdaa764b57d5192db3d7f665ee", checked := Tryd.checked }
namespace Rows
def none {H : Type} : Left H := { results := [], args := [] }

/- WHAT THE LISTED PACKAGE-LEVEL VARIABLES READ AS WHEN THE CALL BEGINS. Each datum BY PROGRAM (the guide's laid-datum.mjs) off the statement by which the dump's own 'gosem.cut.vars' lays the variable. In a bare row this is a premise. The card (YtbaohngkapmhlaaDoorCards.lean) ties it to the program's text. -/
def laid_wagonway_grid_ways {H : Type} : DataW H := .agg [.agg [.lit (.int .u8 94), .lit (.int .u8 118), .lit (.int .i64 (-1)), .lit (.int .i64 0)], .agg [.lit (.int .u8 60), .lit (.int .u8 62), .lit (.int .i64 0), .lit (.int .i64 (-1))], .agg [.lit (.int .u8 62), .lit (.int .u8 60), .lit (.int .i64 0), .lit (.int .i64 1)], .agg [.lit (.int .u8 118), .lit (.int .u8 94), .lit (.int .i64 1), .lit (.int .i64 0)]]

/-- 'wagonwaylaw22.FloorOpen': WHATEVER THE INPUT: true; the input reads as it did. -/
def floorOpenSpec : ChangeSpec := { name := "floorOpen", fn := fun _ => fun
  | [d1, d2, d3] => { results := [.lit (.bool true)], args := [d1, d2, d3] }
  | _ => none }
def floorOpenRow : OpenClaim := { program := "ytbaohngkapmhlaadoor", sum := "739b7334ba95b5dcd314b89dfa6c489006223ccdaa764b57d5192db3d7f665ee", func := "wagonway/wagonwaylaw22.FloorOpen", spec := "floorOpen", inPlace := ["internal/bytealg.IndexByteString", "internal/abi.NoEscape", "sync/atomic.LoadUint32", "(*internal/sync.Mutex).Lock", "internal/race.Disable", "sync/atomic.CompareAndSwapInt32", "internal/race.Enable", "internal/race.Acquire", "(*internal/sync.Mutex).lockSlow", "internal/sync.runtime_canSpin", "internal/sync.runtime_doSpin", "internal/sync.throw", "internal/sync.runtime_nanotime", "internal/sync.runtime_SemacquireMutex", "sync/atomic.AddInt32", "(*internal/sync.Mutex).Unlock", "internal/race.ReleaseMerge", "(*internal/sync.Mutex).unlockSlow", "internal/sync.fatal", "internal/sync.runtime_Semrelease", "sync/atomic.StoreUint32"], unfollowed := true, recurses := true, named := ["wagonway/grid.ways"], apart := false, laid := [("wagonway/grid.ways", laid_wagonway_grid_ways)] }
def FloorOpenSaid : Prop := floorOpenRow.holds Tryd.pinned (OpenSpec.ofChange floorOpenSpec)

/-- ITS FALSE NEIGHBOUR: 'it returns false'. Refute it at one input. -/
def floorOpenWrong : ChangeSpec := { name := "floorOpen", fn := fun _ => fun
  | [d1, d2, d3] => { results := [.lit (.bool false)], args := [d1, d2, d3] }
  | _ => none }
def FloorOpenWrongFalsely : Prop := floorOpenRow.holds Tryd.pinned (OpenSpec.ofChange floorOpenWrong)

/-- 'wagonwaylaw22.FloorSafe': WHATEVER THE INPUT: true; the input reads as it did. -/
def floorSafeSpec : ChangeSpec := { name := "floorSafe", fn := fun _ => fun
  | [d1, d2, d3] => { results := [.lit (.bool true)], args := [d1, d2, d3] }
  | _ => none }
def floorSafeRow : OpenClaim := { program := "ytbaohngkapmhlaadoor", sum := "739b7334ba95b5dcd314b89dfa6c489006223ccdaa764b57d5192db3d7f665ee", func := "wagonway/wagonwaylaw22.FloorSafe", spec := "floorSafe", inPlace := ["internal/bytealg.IndexByteString", "internal/abi.NoEscape", "sync/atomic.LoadUint32", "(*internal/sync.Mutex).Lock", "internal/race.Disable", "sync/atomic.CompareAndSwapInt32", "internal/race.Enable", "internal/race.Acquire", "(*internal/sync.Mutex).lockSlow", "internal/sync.runtime_canSpin", "internal/sync.runtime_doSpin", "internal/sync.throw", "internal/sync.runtime_nanotime", "internal/sync.runtime_SemacquireMutex", "sync/atomic.AddInt32", "(*internal/sync.Mutex).Unlock", "internal/race.ReleaseMerge", "(*internal/sync.Mutex).unlockSlow", "internal/sync.fatal", "internal/sync.runtime_Semrelease", "sync/atomic.StoreUint32"], unfollowed := true, recurses := true, named := ["wagonway/grid.ways"], apart := false, laid := [("wagonway/grid.ways", laid_wagonway_grid_ways)] }
def FloorSafeSaid : Prop := floorSafeRow.holds Tryd.pinned (OpenSpec.ofChange floorSafeSpec)

/-- ITS FALSE NEIGHBOUR: 'it returns false'. Refute it at one input. -/
def floorSafeWrong : ChangeSpec := { name := "floorSafe", fn := fun _ => fun
  | [d1, d2, d3] => { results := [.lit (.bool false)], args := [d1, d2, d3] }
  | _ => none }
def FloorSafeWrongFalsely : Prop := floorSafeRow.holds Tryd.pinned (OpenSpec.ofChange floorSafeWrong)

/-- 'wagonwaylaw22.FloorPlays': WHATEVER THE INPUT: true; the input reads as it did. -/
def floorPlaysSpec : ChangeSpec := { name := "floorPlays", fn := fun _ => fun
  | [d1, d2, d3] => { results := [.lit (.bool true)], args := [d1, d2, d3] }
  | _ => none }
def floorPlaysRow : OpenClaim := { program := "ytbaohngkapmhlaadoor", sum := "739b7334ba95b5dcd314b89dfa6c489006223ccdaa764b57d5192db3d7f665ee", func := "wagonway/wagonwaylaw22.FloorPlays", spec := "floorPlays", inPlace := ["internal/bytealg.IndexByteString", "internal/abi.NoEscape", "sync/atomic.LoadUint32", "(*internal/sync.Mutex).Lock", "internal/race.Disable", "sync/atomic.CompareAndSwapInt32", "internal/race.Enable", "internal/race.Acquire", "(*internal/sync.Mutex).lockSlow", "internal/sync.runtime_canSpin", "internal/sync.runtime_doSpin", "internal/sync.throw", "internal/sync.runtime_nanotime", "internal/sync.runtime_SemacquireMutex", "sync/atomic.AddInt32", "(*internal/sync.Mutex).Unlock", "internal/race.ReleaseMerge", "(*internal/sync.Mutex).unlockSlow", "internal/sync.fatal", "internal/sync.runtime_Semrelease", "sync/atomic.StoreUint32"], unfollowed := true, recurses := true, named := ["wagonway/grid.ways"], apart := false, laid := [("wagonway/grid.ways", laid_wagonway_grid_ways)] }
def FloorPlaysSaid : Prop := floorPlaysRow.holds Tryd.pinned (OpenSpec.ofChange floorPlaysSpec)

/-- ITS FALSE NEIGHBOUR: 'it returns false'. Refute it at one input. -/
def floorPlaysWrong : ChangeSpec := { name := "floorPlays", fn := fun _ => fun
  | [d1, d2, d3] => { results := [.lit (.bool false)], args := [d1, d2, d3] }
  | _ => none }
def FloorPlaysWrongFalsely : Prop := floorPlaysRow.holds Tryd.pinned (OpenSpec.ofChange floorPlaysWrong)

/-- 'wagonwaylaw22.FloorShows': WHATEVER THE INPUT: true; the input reads as it did. -/
def floorShowsSpec : ChangeSpec := { name := "floorShows", fn := fun _ => fun
  | [d1, d2, d3] => { results := [.lit (.bool true)], args := [d1, d2, d3] }
  | _ => none }
def floorShowsRow : OpenClaim := { program := "ytbaohngkapmhlaadoor", sum := "739b7334ba95b5dcd314b89dfa6c489006223ccdaa764b57d5192db3d7f665ee", func := "wagonway/wagonwaylaw22.FloorShows", spec := "floorShows", inPlace := ["internal/bytealg.IndexByteString", "internal/abi.NoEscape", "sync/atomic.LoadUint32", "(*internal/sync.Mutex).Lock", "internal/race.Disable", "sync/atomic.CompareAndSwapInt32", "internal/race.Enable", "internal/race.Acquire", "(*internal/sync.Mutex).lockSlow", "internal/sync.runtime_canSpin", "internal/sync.runtime_doSpin", "internal/sync.throw", "internal/sync.runtime_nanotime", "internal/sync.runtime_SemacquireMutex", "sync/atomic.AddInt32", "(*internal/sync.Mutex).Unlock", "internal/race.ReleaseMerge", "(*internal/sync.Mutex).unlockSlow", "internal/sync.fatal", "internal/sync.runtime_Semrelease", "sync/atomic.StoreUint32"], unfollowed := true, recurses := true, named := ["wagonway/grid.ways"], apart := false, laid := [("wagonway/grid.ways", laid_wagonway_grid_ways)] }
def FloorShowsSaid : Prop := floorShowsRow.holds Tryd.pinned (OpenSpec.ofChange floorShowsSpec)

/-- ITS FALSE NEIGHBOUR: 'it returns false'. Refute it at one input. -/
def floorShowsWrong : ChangeSpec := { name := "floorShows", fn := fun _ => fun
  | [d1, d2, d3] => { results := [.lit (.bool false)], args := [d1, d2, d3] }
  | _ => none }
def FloorShowsWrongFalsely : Prop := floorShowsRow.holds Tryd.pinned (OpenSpec.ofChange floorShowsWrong)

/-- 'wagonwaylaw25.PebbleChecks': WHATEVER THE INPUT: true; the input reads as it did. -/
def pebbleChecksSpec : ChangeSpec := { name := "pebbleChecks", fn := fun _ => fun
  | [d1, d2, d3] => { results := [.lit (.bool true)], args := [d1, d2, d3] }
  | _ => none }
def pebbleChecksRow : OpenClaim := { program := "ytbaohngkapmhlaadoor", sum := "739b7334ba95b5dcd314b89dfa6c489006223ccdaa764b57d5192db3d7f665ee", func := "wagonway/wagonwaylaw25.PebbleChecks", spec := "pebbleChecks", inPlace := ["internal/bytealg.IndexByteString", "sync/atomic.LoadUint32", "(*internal/sync.Mutex).Lock", "internal/race.Disable", "sync/atomic.CompareAndSwapInt32", "internal/race.Enable", "internal/race.Acquire", "(*internal/sync.Mutex).lockSlow", "internal/sync.runtime_canSpin", "internal/sync.runtime_doSpin", "internal/sync.throw", "internal/sync.runtime_nanotime", "internal/sync.runtime_SemacquireMutex", "sync/atomic.AddInt32", "(*internal/sync.Mutex).Unlock", "internal/race.ReleaseMerge", "(*internal/sync.Mutex).unlockSlow", "internal/sync.fatal", "internal/sync.runtime_Semrelease", "sync/atomic.StoreUint32"], unfollowed := true, recurses := true, named := ["wagonway/grid.ways"], apart := false, laid := [("wagonway/grid.ways", laid_wagonway_grid_ways)] }
def PebbleChecksSaid : Prop := pebbleChecksRow.holds Tryd.pinned (OpenSpec.ofChange pebbleChecksSpec)

/-- ITS FALSE NEIGHBOUR: 'it returns false'. Refute it at one input. -/
def pebbleChecksWrong : ChangeSpec := { name := "pebbleChecks", fn := fun _ => fun
  | [d1, d2, d3] => { results := [.lit (.bool false)], args := [d1, d2, d3] }
  | _ => none }
def PebbleChecksWrongFalsely : Prop := pebbleChecksRow.holds Tryd.pinned (OpenSpec.ofChange pebbleChecksWrong)

/-- 'wagonwaylaw25.PebbleRuns': WHATEVER THE INPUT: true; the input reads as it did. -/
def pebbleRunsSpec : ChangeSpec := { name := "pebbleRuns", fn := fun _ => fun
  | [d1, d2, d3] => { results := [.lit (.bool true)], args := [d1, d2, d3] }
  | _ => none }
def pebbleRunsRow : OpenClaim := { program := "ytbaohngkapmhlaadoor", sum := "739b7334ba95b5dcd314b89dfa6c489006223ccdaa764b57d5192db3d7f665ee", func := "wagonway/wagonwaylaw25.PebbleRuns", spec := "pebbleRuns", inPlace := ["internal/bytealg.IndexByteString", "sync/atomic.LoadUint32", "(*internal/sync.Mutex).Lock", "internal/race.Disable", "sync/atomic.CompareAndSwapInt32", "internal/race.Enable", "internal/race.Acquire", "(*internal/sync.Mutex).lockSlow", "internal/sync.runtime_canSpin", "internal/sync.runtime_doSpin", "internal/sync.throw", "internal/sync.runtime_nanotime", "internal/sync.runtime_SemacquireMutex", "sync/atomic.AddInt32", "(*internal/sync.Mutex).Unlock", "internal/race.ReleaseMerge", "(*internal/sync.Mutex).unlockSlow", "internal/sync.fatal", "internal/sync.runtime_Semrelease", "sync/atomic.StoreUint32"], unfollowed := true, recurses := true, named := ["wagonway/grid.ways"], apart := false, laid := [("wagonway/grid.ways", laid_wagonway_grid_ways)] }
def PebbleRunsSaid : Prop := pebbleRunsRow.holds Tryd.pinned (OpenSpec.ofChange pebbleRunsSpec)

/-- ITS FALSE NEIGHBOUR: 'it returns false'. Refute it at one input. -/
def pebbleRunsWrong : ChangeSpec := { name := "pebbleRuns", fn := fun _ => fun
  | [d1, d2, d3] => { results := [.lit (.bool false)], args := [d1, d2, d3] }
  | _ => none }
def PebbleRunsWrongFalsely : Prop := pebbleRunsRow.holds Tryd.pinned (OpenSpec.ofChange pebbleRunsWrong)

/-- 'wagonwaylaw25.PebbleUndone': WHATEVER THE INPUT: true; the input reads as it did. -/
def pebbleUndoneSpec : ChangeSpec := { name := "pebbleUndone", fn := fun _ => fun
  | [d1, d2, d3] => { results := [.lit (.bool true)], args := [d1, d2, d3] }
  | _ => none }
def pebbleUndoneRow : OpenClaim := { program := "ytbaohngkapmhlaadoor", sum := "739b7334ba95b5dcd314b89dfa6c489006223ccdaa764b57d5192db3d7f665ee", func := "wagonway/wagonwaylaw25.PebbleUndone", spec := "pebbleUndone", inPlace := ["internal/bytealg.IndexByteString", "sync/atomic.LoadUint32", "(*internal/sync.Mutex).Lock", "internal/race.Disable", "sync/atomic.CompareAndSwapInt32", "internal/race.Enable", "internal/race.Acquire", "(*internal/sync.Mutex).lockSlow", "internal/sync.runtime_canSpin", "internal/sync.runtime_doSpin", "internal/sync.throw", "internal/sync.runtime_nanotime", "internal/sync.runtime_SemacquireMutex", "sync/atomic.AddInt32", "(*internal/sync.Mutex).Unlock", "internal/race.ReleaseMerge", "(*internal/sync.Mutex).unlockSlow", "internal/sync.fatal", "internal/sync.runtime_Semrelease", "sync/atomic.StoreUint32"], unfollowed := true, recurses := true, named := ["wagonway/grid.ways"], apart := false, laid := [("wagonway/grid.ways", laid_wagonway_grid_ways)] }
def PebbleUndoneSaid : Prop := pebbleUndoneRow.holds Tryd.pinned (OpenSpec.ofChange pebbleUndoneSpec)

/-- ITS FALSE NEIGHBOUR: 'it returns false'. Refute it at one input. -/
def pebbleUndoneWrong : ChangeSpec := { name := "pebbleUndone", fn := fun _ => fun
  | [d1, d2, d3] => { results := [.lit (.bool false)], args := [d1, d2, d3] }
  | _ => none }
def PebbleUndoneWrongFalsely : Prop := pebbleUndoneRow.holds Tryd.pinned (OpenSpec.ofChange pebbleUndoneWrong)

/-- 'wagonwaylaw25.PebbleApart': WHATEVER THE INPUT: true; the input reads as it did. -/
def pebbleApartSpec : ChangeSpec := { name := "pebbleApart", fn := fun _ => fun
  | [d1, d2, d3] => { results := [.lit (.bool true)], args := [d1, d2, d3] }
  | _ => none }
def pebbleApartRow : OpenClaim := { program := "ytbaohngkapmhlaadoor", sum := "739b7334ba95b5dcd314b89dfa6c489006223ccdaa764b57d5192db3d7f665ee", func := "wagonway/wagonwaylaw25.PebbleApart", spec := "pebbleApart", inPlace := ["internal/bytealg.IndexByteString", "sync/atomic.LoadUint32", "(*internal/sync.Mutex).Lock", "internal/race.Disable", "sync/atomic.CompareAndSwapInt32", "internal/race.Enable", "internal/race.Acquire", "(*internal/sync.Mutex).lockSlow", "internal/sync.runtime_canSpin", "internal/sync.runtime_doSpin", "internal/sync.throw", "internal/sync.runtime_nanotime", "internal/sync.runtime_SemacquireMutex", "sync/atomic.AddInt32", "(*internal/sync.Mutex).Unlock", "internal/race.ReleaseMerge", "(*internal/sync.Mutex).unlockSlow", "internal/sync.fatal", "internal/sync.runtime_Semrelease", "sync/atomic.StoreUint32"], unfollowed := true, recurses := true, named := ["wagonway/grid.ways"], apart := false, laid := [("wagonway/grid.ways", laid_wagonway_grid_ways)] }
def PebbleApartSaid : Prop := pebbleApartRow.holds Tryd.pinned (OpenSpec.ofChange pebbleApartSpec)

/-- ITS FALSE NEIGHBOUR: 'it returns false'. Refute it at one input. -/
def pebbleApartWrong : ChangeSpec := { name := "pebbleApart", fn := fun _ => fun
  | [d1, d2, d3] => { results := [.lit (.bool false)], args := [d1, d2, d3] }
  | _ => none }
def PebbleApartWrongFalsely : Prop := pebbleApartRow.holds Tryd.pinned (OpenSpec.ofChange pebbleApartWrong)

/-- 'wagonwaylaw25.PebbleSafe': WHATEVER THE INPUT: true; the input reads as it did. -/
def pebbleSafeSpec : ChangeSpec := { name := "pebbleSafe", fn := fun _ => fun
  | [d1, d2, d3] => { results := [.lit (.bool true)], args := [d1, d2, d3] }
  | _ => none }
def pebbleSafeRow : OpenClaim := { program := "ytbaohngkapmhlaadoor", sum := "739b7334ba95b5dcd314b89dfa6c489006223ccdaa764b57d5192db3d7f665ee", func := "wagonway/wagonwaylaw25.PebbleSafe", spec := "pebbleSafe", inPlace := ["internal/bytealg.IndexByteString", "sync/atomic.LoadUint32", "(*internal/sync.Mutex).Lock", "internal/race.Disable", "sync/atomic.CompareAndSwapInt32", "internal/race.Enable", "internal/race.Acquire", "(*internal/sync.Mutex).lockSlow", "internal/sync.runtime_canSpin", "internal/sync.runtime_doSpin", "internal/sync.throw", "internal/sync.runtime_nanotime", "internal/sync.runtime_SemacquireMutex", "sync/atomic.AddInt32", "(*internal/sync.Mutex).Unlock", "internal/race.ReleaseMerge", "(*internal/sync.Mutex).unlockSlow", "internal/sync.fatal", "internal/sync.runtime_Semrelease", "sync/atomic.StoreUint32"], unfollowed := true, recurses := true, named := ["wagonway/grid.ways"], apart := false, laid := [("wagonway/grid.ways", laid_wagonway_grid_ways)] }
def PebbleSafeSaid : Prop := pebbleSafeRow.holds Tryd.pinned (OpenSpec.ofChange pebbleSafeSpec)

/-- ITS FALSE NEIGHBOUR: 'it returns false'. Refute it at one input. -/
def pebbleSafeWrong : ChangeSpec := { name := "pebbleSafe", fn := fun _ => fun
  | [d1, d2, d3] => { results := [.lit (.bool false)], args := [d1, d2, d3] }
  | _ => none }
def PebbleSafeWrongFalsely : Prop := pebbleSafeRow.holds Tryd.pinned (OpenSpec.ofChange pebbleSafeWrong)

/- THE SECOND FORM. 'bulk': how many values and letters a reading holds, each counted each time it is reached (what is shared counts as often as it is met; a slice's spare places count too). A statement '..UptoSaid' is the law's where the arguments, and the package variables that the reading takes, are together of bulk at most 1048576: NARROWER than '..Said'. Prove '..Said' where nothing that the law and all that it calls make is longer than what came in: it says more and counts as full. Else prove '..UptoSaid'. A law counts once. -/
mutual
def uptoBulk {H : Type} : DataW H → Nat
  | .lit (.string bytes) => bytes.length + 1
  | .lit _ => 1
  | .nil => 1
  | .ptr d => uptoBulk d + 1
  | .slice elems spare => uptoBulkAll elems + uptoBulkAll spare + 1
  | .agg parts => uptoBulkAll parts + 1
  | .iface _ d => uptoBulk d + 1
  | .map entries => uptoBulkEntries entries + 1
  | .held _ => 1
def uptoBulkAll {H : Type} : List (DataW H) → Nat
  | [] => 0
  | d :: r => uptoBulk d + uptoBulkAll r
def uptoBulkEntries {H : Type} : List (Lit × DataW H) → Nat
  | [] => 0
  | x :: r => uptoBulkEntry x + uptoBulkEntries r
def uptoBulkEntry {H : Type} : Lit × DataW H → Nat
  | (.string bytes, d) => bytes.length + uptoBulk d + 1
  | (_, d) => uptoBulk d + 1
 end
def uptoSmall : (H : Type) → List (DataW H) → Bool := fun _ ds => decide (uptoBulkAll ds ≤ 1048576)
def OpenSpec.upto (s : _root_.Go.ChangeSpec) : _root_.Go.OpenSpec := { _root_.Go.OpenSpec.ofChange s with cond := some uptoSmall }

/-- 'wagonwaylaw22.FloorOpen', WHERE WHAT IT READS IS OF BULK AT MOST 1048576: true; the input reads as it did. -/
def floorOpenUptoRow : OpenClaim := { program := "ytbaohngkapmhlaadoor", sum := "739b7334ba95b5dcd314b89dfa6c489006223ccdaa764b57d5192db3d7f665ee", func := "wagonway/wagonwaylaw22.FloorOpen", spec := "floorOpen", inPlace := ["internal/bytealg.IndexByteString", "internal/abi.NoEscape", "sync/atomic.LoadUint32", "(*internal/sync.Mutex).Lock", "internal/race.Disable", "sync/atomic.CompareAndSwapInt32", "internal/race.Enable", "internal/race.Acquire", "(*internal/sync.Mutex).lockSlow", "internal/sync.runtime_canSpin", "internal/sync.runtime_doSpin", "internal/sync.throw", "internal/sync.runtime_nanotime", "internal/sync.runtime_SemacquireMutex", "sync/atomic.AddInt32", "(*internal/sync.Mutex).Unlock", "internal/race.ReleaseMerge", "(*internal/sync.Mutex).unlockSlow", "internal/sync.fatal", "internal/sync.runtime_Semrelease", "sync/atomic.StoreUint32"], unfollowed := true, recurses := true, named := ["wagonway/grid.ways"], apart := false, laid := [("wagonway/grid.ways", laid_wagonway_grid_ways)], narrowed := true }
def FloorOpenUptoSaid : Prop := floorOpenUptoRow.holds Tryd.pinned (OpenSpec.upto floorOpenSpec)

/-- 'wagonwaylaw22.FloorSafe', WHERE WHAT IT READS IS OF BULK AT MOST 1048576: true; the input reads as it did. -/
def floorSafeUptoRow : OpenClaim := { program := "ytbaohngkapmhlaadoor", sum := "739b7334ba95b5dcd314b89dfa6c489006223ccdaa764b57d5192db3d7f665ee", func := "wagonway/wagonwaylaw22.FloorSafe", spec := "floorSafe", inPlace := ["internal/bytealg.IndexByteString", "internal/abi.NoEscape", "sync/atomic.LoadUint32", "(*internal/sync.Mutex).Lock", "internal/race.Disable", "sync/atomic.CompareAndSwapInt32", "internal/race.Enable", "internal/race.Acquire", "(*internal/sync.Mutex).lockSlow", "internal/sync.runtime_canSpin", "internal/sync.runtime_doSpin", "internal/sync.throw", "internal/sync.runtime_nanotime", "internal/sync.runtime_SemacquireMutex", "sync/atomic.AddInt32", "(*internal/sync.Mutex).Unlock", "internal/race.ReleaseMerge", "(*internal/sync.Mutex).unlockSlow", "internal/sync.fatal", "internal/sync.runtime_Semrelease", "sync/atomic.StoreUint32"], unfollowed := true, recurses := true, named := ["wagonway/grid.ways"], apart := false, laid := [("wagonway/grid.ways", laid_wagonway_grid_ways)], narrowed := true }
def FloorSafeUptoSaid : Prop := floorSafeUptoRow.holds Tryd.pinned (OpenSpec.upto floorSafeSpec)

/-- 'wagonwaylaw22.FloorPlays', WHERE WHAT IT READS IS OF BULK AT MOST 1048576: true; the input reads as it did. -/
def floorPlaysUptoRow : OpenClaim := { program := "ytbaohngkapmhlaadoor", sum := "739b7334ba95b5dcd314b89dfa6c489006223ccdaa764b57d5192db3d7f665ee", func := "wagonway/wagonwaylaw22.FloorPlays", spec := "floorPlays", inPlace := ["internal/bytealg.IndexByteString", "internal/abi.NoEscape", "sync/atomic.LoadUint32", "(*internal/sync.Mutex).Lock", "internal/race.Disable", "sync/atomic.CompareAndSwapInt32", "internal/race.Enable", "internal/race.Acquire", "(*internal/sync.Mutex).lockSlow", "internal/sync.runtime_canSpin", "internal/sync.runtime_doSpin", "internal/sync.throw", "internal/sync.runtime_nanotime", "internal/sync.runtime_SemacquireMutex", "sync/atomic.AddInt32", "(*internal/sync.Mutex).Unlock", "internal/race.ReleaseMerge", "(*internal/sync.Mutex).unlockSlow", "internal/sync.fatal", "internal/sync.runtime_Semrelease", "sync/atomic.StoreUint32"], unfollowed := true, recurses := true, named := ["wagonway/grid.ways"], apart := false, laid := [("wagonway/grid.ways", laid_wagonway_grid_ways)], narrowed := true }
def FloorPlaysUptoSaid : Prop := floorPlaysUptoRow.holds Tryd.pinned (OpenSpec.upto floorPlaysSpec)

/-- 'wagonwaylaw22.FloorShows', WHERE WHAT IT READS IS OF BULK AT MOST 1048576: true; the input reads as it did. -/
def floorShowsUptoRow : OpenClaim := { program := "ytbaohngkapmhlaadoor", sum := "739b7334ba95b5dcd314b89dfa6c489006223ccdaa764b57d5192db3d7f665ee", func := "wagonway/wagonwaylaw22.FloorShows", spec := "floorShows", inPlace := ["internal/bytealg.IndexByteString", "internal/abi.NoEscape", "sync/atomic.LoadUint32", "(*internal/sync.Mutex).Lock", "internal/race.Disable", "sync/atomic.CompareAndSwapInt32", "internal/race.Enable", "internal/race.Acquire", "(*internal/sync.Mutex).lockSlow", "internal/sync.runtime_canSpin", "internal/sync.runtime_doSpin", "internal/sync.throw", "internal/sync.runtime_nanotime", "internal/sync.runtime_SemacquireMutex", "sync/atomic.AddInt32", "(*internal/sync.Mutex).Unlock", "internal/race.ReleaseMerge", "(*internal/sync.Mutex).unlockSlow", "internal/sync.fatal", "internal/sync.runtime_Semrelease", "sync/atomic.StoreUint32"], unfollowed := true, recurses := true, named := ["wagonway/grid.ways"], apart := false, laid := [("wagonway/grid.ways", laid_wagonway_grid_ways)], narrowed := true }
def FloorShowsUptoSaid : Prop := floorShowsUptoRow.holds Tryd.pinned (OpenSpec.upto floorShowsSpec)

/-- 'wagonwaylaw25.PebbleChecks', WHERE WHAT IT READS IS OF BULK AT MOST 1048576: true; the input reads as it did. -/
def pebbleChecksUptoRow : OpenClaim := { program := "ytbaohngkapmhlaadoor", sum := "739b7334ba95b5dcd314b89dfa6c489006223ccdaa764b57d5192db3d7f665ee", func := "wagonway/wagonwaylaw25.PebbleChecks", spec := "pebbleChecks", inPlace := ["internal/bytealg.IndexByteString", "sync/atomic.LoadUint32", "(*internal/sync.Mutex).Lock", "internal/race.Disable", "sync/atomic.CompareAndSwapInt32", "internal/race.Enable", "internal/race.Acquire", "(*internal/sync.Mutex).lockSlow", "internal/sync.runtime_canSpin", "internal/sync.runtime_doSpin", "internal/sync.throw", "internal/sync.runtime_nanotime", "internal/sync.runtime_SemacquireMutex", "sync/atomic.AddInt32", "(*internal/sync.Mutex).Unlock", "internal/race.ReleaseMerge", "(*internal/sync.Mutex).unlockSlow", "internal/sync.fatal", "internal/sync.runtime_Semrelease", "sync/atomic.StoreUint32"], unfollowed := true, recurses := true, named := ["wagonway/grid.ways"], apart := false, laid := [("wagonway/grid.ways", laid_wagonway_grid_ways)], narrowed := true }
def PebbleChecksUptoSaid : Prop := pebbleChecksUptoRow.holds Tryd.pinned (OpenSpec.upto pebbleChecksSpec)

/-- 'wagonwaylaw25.PebbleRuns', WHERE WHAT IT READS IS OF BULK AT MOST 1048576: true; the input reads as it did. -/
def pebbleRunsUptoRow : OpenClaim := { program := "ytbaohngkapmhlaadoor", sum := "739b7334ba95b5dcd314b89dfa6c489006223ccdaa764b57d5192db3d7f665ee", func := "wagonway/wagonwaylaw25.PebbleRuns", spec := "pebbleRuns", inPlace := ["internal/bytealg.IndexByteString", "sync/atomic.LoadUint32", "(*internal/sync.Mutex).Lock", "internal/race.Disable", "sync/atomic.CompareAndSwapInt32", "internal/race.Enable", "internal/race.Acquire", "(*internal/sync.Mutex).lockSlow", "internal/sync.runtime_canSpin", "internal/sync.runtime_doSpin", "internal/sync.throw", "internal/sync.runtime_nanotime", "internal/sync.runtime_SemacquireMutex", "sync/atomic.AddInt32", "(*internal/sync.Mutex).Unlock", "internal/race.ReleaseMerge", "(*internal/sync.Mutex).unlockSlow", "internal/sync.fatal", "internal/sync.runtime_Semrelease", "sync/atomic.StoreUint32"], unfollowed := true, recurses := true, named := ["wagonway/grid.ways"], apart := false, laid := [("wagonway/grid.ways", laid_wagonway_grid_ways)], narrowed := true }
def PebbleRunsUptoSaid : Prop := pebbleRunsUptoRow.holds Tryd.pinned (OpenSpec.upto pebbleRunsSpec)

/-- 'wagonwaylaw25.PebbleUndone', WHERE WHAT IT READS IS OF BULK AT MOST 1048576: true; the input reads as it did. -/
def pebbleUndoneUptoRow : OpenClaim := { program := "ytbaohngkapmhlaadoor", sum := "739b7334ba95b5dcd314b89dfa6c489006223ccdaa764b57d5192db3d7f665ee", func := "wagonway/wagonwaylaw25.PebbleUndone", spec := "pebbleUndone", inPlace := ["internal/bytealg.IndexByteString", "sync/atomic.LoadUint32", "(*internal/sync.Mutex).Lock", "internal/race.Disable", "sync/atomic.CompareAndSwapInt32", "internal/race.Enable", "internal/race.Acquire", "(*internal/sync.Mutex).lockSlow", "internal/sync.runtime_canSpin", "internal/sync.runtime_doSpin", "internal/sync.throw", "internal/sync.runtime_nanotime", "internal/sync.runtime_SemacquireMutex", "sync/atomic.AddInt32", "(*internal/sync.Mutex).Unlock", "internal/race.ReleaseMerge", "(*internal/sync.Mutex).unlockSlow", "internal/sync.fatal", "internal/sync.runtime_Semrelease", "sync/atomic.StoreUint32"], unfollowed := true, recurses := true, named := ["wagonway/grid.ways"], apart := false, laid := [("wagonway/grid.ways", laid_wagonway_grid_ways)], narrowed := true }
def PebbleUndoneUptoSaid : Prop := pebbleUndoneUptoRow.holds Tryd.pinned (OpenSpec.upto pebbleUndoneSpec)

/-- 'wagonwaylaw25.PebbleApart', WHERE WHAT IT READS IS OF BULK AT MOST 1048576: true; the input reads as it did. -/
def pebbleApartUptoRow : OpenClaim := { program := "ytbaohngkapmhlaadoor", sum := "739b7334ba95b5dcd314b89dfa6c489006223ccdaa764b57d5192db3d7f665ee", func := "wagonway/wagonwaylaw25.PebbleApart", spec := "pebbleApart", inPlace := ["internal/bytealg.IndexByteString", "sync/atomic.LoadUint32", "(*internal/sync.Mutex).Lock", "internal/race.Disable", "sync/atomic.CompareAndSwapInt32", "internal/race.Enable", "internal/race.Acquire", "(*internal/sync.Mutex).lockSlow", "internal/sync.runtime_canSpin", "internal/sync.runtime_doSpin", "internal/sync.throw", "internal/sync.runtime_nanotime", "internal/sync.runtime_SemacquireMutex", "sync/atomic.AddInt32", "(*internal/sync.Mutex).Unlock", "internal/race.ReleaseMerge", "(*internal/sync.Mutex).unlockSlow", "internal/sync.fatal", "internal/sync.runtime_Semrelease", "sync/atomic.StoreUint32"], unfollowed := true, recurses := true, named := ["wagonway/grid.ways"], apart := false, laid := [("wagonway/grid.ways", laid_wagonway_grid_ways)], narrowed := true }
def PebbleApartUptoSaid : Prop := pebbleApartUptoRow.holds Tryd.pinned (OpenSpec.upto pebbleApartSpec)

/-- 'wagonwaylaw25.PebbleSafe', WHERE WHAT IT READS IS OF BULK AT MOST 1048576: true; the input reads as it did. -/
def pebbleSafeUptoRow : OpenClaim := { program := "ytbaohngkapmhlaadoor", sum := "739b7334ba95b5dcd314b89dfa6c489006223ccdaa764b57d5192db3d7f665ee", func := "wagonway/wagonwaylaw25.PebbleSafe", spec := "pebbleSafe", inPlace := ["internal/bytealg.IndexByteString", "sync/atomic.LoadUint32", "(*internal/sync.Mutex).Lock", "internal/race.Disable", "sync/atomic.CompareAndSwapInt32", "internal/race.Enable", "internal/race.Acquire", "(*internal/sync.Mutex).lockSlow", "internal/sync.runtime_canSpin", "internal/sync.runtime_doSpin", "internal/sync.throw", "internal/sync.runtime_nanotime", "internal/sync.runtime_SemacquireMutex", "sync/atomic.AddInt32", "(*internal/sync.Mutex).Unlock", "internal/race.ReleaseMerge", "(*internal/sync.Mutex).unlockSlow", "internal/sync.fatal", "internal/sync.runtime_Semrelease", "sync/atomic.StoreUint32"], unfollowed := true, recurses := true, named := ["wagonway/grid.ways"], apart := false, laid := [("wagonway/grid.ways", laid_wagonway_grid_ways)], narrowed := true }
def PebbleSafeUptoSaid : Prop := pebbleSafeUptoRow.holds Tryd.pinned (OpenSpec.upto pebbleSafeSpec)

end Rows
end Go.Proofs.YtbaohngkapmhlaaDoor
