/-
  NARROWER THAN 'FOR EVERY INPUT', by the rows' own cells (each row's printed sentence says how): RouteAround: laid · RouteTriangle: laid · RouteFinds: laid · RouteRest: laid · RouteBans: laid · RouteShort: laid · RouteNames: laid · GoalOrder: laid · GoalComes: laid · GoalLooks: laid · GoalNames: laid.
  DERIVED. THE GIVEN ROWS OF THIS SEAT. 11 by the template 'for every input the law returns true; each argument reads behind the call as it read before'; 0 by the template 'total and deterministic' (their statements: YtgdcbjpookldoaaDoorTotals.lean).
  GIVEN WITH THE SEED: the statements are not yours to turn. If you find one false, say at which input.
  Laid BY PROGRAM, IN A SANDBOX (cutbox-rows.mjs): the forced cells as the released guide's own fill.sh prints them over the translation 93da3dee5fc479e3… (all of the seat's roots in one cut). By AI agents, Wed Nov 11 2026. No macro, syntax, notation, axiom, sorry.
-/
import Derived.Test.YtgdcbjpookldoaaDoorChecked
import GoSem.Claim
import GoSem.ClaimJoined
import GoSem.ClaimMapViews
import Derived.JoinedTies
import Derived.KernelRfl
namespace Go.Proofs.YtgdcbjpookldoaaDoor
/- THE CELL 'sum', in the pinned program and in every row, IS THE sha256 OF THE DUMP (.gsa) THAT YtgdcbjpookldoaaDoorProg.lean LOADS. Nothing in Lean hashes anything: it is a label: what it is worth is what the hold of that sum in a sandbox is worth. -/
noncomputable def Tryd.pinned : Pinned := { name := "ytgdcbjpookldoaadoor", sum := "93da3dee5fc479e35cc0a335e43ec56630123d111129c48b5153124f248de697", checked := Tryd.checked }
namespace Rows
def none {H : Type} : Left H := { results := [], args := [] }

/- WHAT THE LISTED PACKAGE-LEVEL VARIABLES READ AS WHEN THE CALL BEGINS. Each datum BY PROGRAM (the guide's laid-datum.mjs) off the statement by which the dump's own 'gosem.cut.vars' lays the variable. In a bare row this is a premise. The card (YtgdcbjpookldoaaDoorCards.lean) ties it to the program's text. -/
def laid_wagonway_grid_ways {H : Type} : DataW H := .agg [.agg [.lit (.int .u8 94), .lit (.int .u8 118), .lit (.int .i64 (-1)), .lit (.int .i64 0)], .agg [.lit (.int .u8 60), .lit (.int .u8 62), .lit (.int .i64 0), .lit (.int .i64 (-1))], .agg [.lit (.int .u8 62), .lit (.int .u8 60), .lit (.int .i64 0), .lit (.int .i64 1)], .agg [.lit (.int .u8 118), .lit (.int .u8 94), .lit (.int .i64 1), .lit (.int .i64 0)]]

/-- 'wagonwaylaw04.RouteAround': WHATEVER THE INPUT: true; the input reads as it did. -/
def routeAroundSpec : ChangeSpec := { name := "routeAround", fn := fun _ => fun
  | [d1, d2, d3, d4, d5] => { results := [.lit (.bool true)], args := [d1, d2, d3, d4, d5] }
  | _ => none }
def routeAroundRow : OpenClaim := { program := "ytgdcbjpookldoaadoor", sum := "93da3dee5fc479e35cc0a335e43ec56630123d111129c48b5153124f248de697", func := "wagonway/wagonwaylaw04.RouteAround", spec := "routeAround", inPlace := ["internal/bytealg.IndexByteString", "sync/atomic.LoadUint32", "(*internal/sync.Mutex).Lock", "internal/race.Disable", "sync/atomic.CompareAndSwapInt32", "internal/race.Enable", "internal/race.Acquire", "(*internal/sync.Mutex).lockSlow", "internal/sync.runtime_canSpin", "internal/sync.runtime_doSpin", "internal/sync.throw", "internal/sync.runtime_nanotime", "internal/sync.runtime_SemacquireMutex", "sync/atomic.AddInt32", "(*internal/sync.Mutex).Unlock", "internal/race.ReleaseMerge", "(*internal/sync.Mutex).unlockSlow", "internal/sync.fatal", "internal/sync.runtime_Semrelease", "sync/atomic.StoreUint32"], unfollowed := true, recurses := true, named := ["wagonway/grid.ways"], apart := false, laid := [("wagonway/grid.ways", laid_wagonway_grid_ways)] }
def RouteAroundSaid : Prop := routeAroundRow.holds Tryd.pinned (OpenSpec.ofChange routeAroundSpec)

/-- ITS FALSE NEIGHBOUR: 'it returns false'. Refute it at one input. -/
def routeAroundWrong : ChangeSpec := { name := "routeAround", fn := fun _ => fun
  | [d1, d2, d3, d4, d5] => { results := [.lit (.bool false)], args := [d1, d2, d3, d4, d5] }
  | _ => none }
def RouteAroundWrongFalsely : Prop := routeAroundRow.holds Tryd.pinned (OpenSpec.ofChange routeAroundWrong)

/-- 'wagonwaylaw04.RouteTriangle': WHATEVER THE INPUT: true; the input reads as it did. -/
def routeTriangleSpec : ChangeSpec := { name := "routeTriangle", fn := fun _ => fun
  | [d1, d2, d3, d4] => { results := [.lit (.bool true)], args := [d1, d2, d3, d4] }
  | _ => none }
def routeTriangleRow : OpenClaim := { program := "ytgdcbjpookldoaadoor", sum := "93da3dee5fc479e35cc0a335e43ec56630123d111129c48b5153124f248de697", func := "wagonway/wagonwaylaw04.RouteTriangle", spec := "routeTriangle", inPlace := ["internal/bytealg.IndexByteString", "sync/atomic.LoadUint32", "(*internal/sync.Mutex).Lock", "internal/race.Disable", "sync/atomic.CompareAndSwapInt32", "internal/race.Enable", "internal/race.Acquire", "(*internal/sync.Mutex).lockSlow", "internal/sync.runtime_canSpin", "internal/sync.runtime_doSpin", "internal/sync.throw", "internal/sync.runtime_nanotime", "internal/sync.runtime_SemacquireMutex", "sync/atomic.AddInt32", "(*internal/sync.Mutex).Unlock", "internal/race.ReleaseMerge", "(*internal/sync.Mutex).unlockSlow", "internal/sync.fatal", "internal/sync.runtime_Semrelease", "sync/atomic.StoreUint32"], unfollowed := true, recurses := true, named := ["wagonway/grid.ways"], apart := false, laid := [("wagonway/grid.ways", laid_wagonway_grid_ways)] }
def RouteTriangleSaid : Prop := routeTriangleRow.holds Tryd.pinned (OpenSpec.ofChange routeTriangleSpec)

/-- ITS FALSE NEIGHBOUR: 'it returns false'. Refute it at one input. -/
def routeTriangleWrong : ChangeSpec := { name := "routeTriangle", fn := fun _ => fun
  | [d1, d2, d3, d4] => { results := [.lit (.bool false)], args := [d1, d2, d3, d4] }
  | _ => none }
def RouteTriangleWrongFalsely : Prop := routeTriangleRow.holds Tryd.pinned (OpenSpec.ofChange routeTriangleWrong)

/-- 'wagonwaylaw04.RouteFinds': WHATEVER THE INPUT: true; the input reads as it did. -/
def routeFindsSpec : ChangeSpec := { name := "routeFinds", fn := fun _ => fun
  | [d1, d2, d3, d4, d5] => { results := [.lit (.bool true)], args := [d1, d2, d3, d4, d5] }
  | _ => none }
def routeFindsRow : OpenClaim := { program := "ytgdcbjpookldoaadoor", sum := "93da3dee5fc479e35cc0a335e43ec56630123d111129c48b5153124f248de697", func := "wagonway/wagonwaylaw04.RouteFinds", spec := "routeFinds", inPlace := ["internal/bytealg.IndexByteString", "sync/atomic.LoadUint32", "(*internal/sync.Mutex).Lock", "internal/race.Disable", "sync/atomic.CompareAndSwapInt32", "internal/race.Enable", "internal/race.Acquire", "(*internal/sync.Mutex).lockSlow", "internal/sync.runtime_canSpin", "internal/sync.runtime_doSpin", "internal/sync.throw", "internal/sync.runtime_nanotime", "internal/sync.runtime_SemacquireMutex", "sync/atomic.AddInt32", "(*internal/sync.Mutex).Unlock", "internal/race.ReleaseMerge", "(*internal/sync.Mutex).unlockSlow", "internal/sync.fatal", "internal/sync.runtime_Semrelease", "sync/atomic.StoreUint32"], unfollowed := true, recurses := true, named := ["wagonway/grid.ways"], apart := false, laid := [("wagonway/grid.ways", laid_wagonway_grid_ways)] }
def RouteFindsSaid : Prop := routeFindsRow.holds Tryd.pinned (OpenSpec.ofChange routeFindsSpec)

/-- ITS FALSE NEIGHBOUR: 'it returns false'. Refute it at one input. -/
def routeFindsWrong : ChangeSpec := { name := "routeFinds", fn := fun _ => fun
  | [d1, d2, d3, d4, d5] => { results := [.lit (.bool false)], args := [d1, d2, d3, d4, d5] }
  | _ => none }
def RouteFindsWrongFalsely : Prop := routeFindsRow.holds Tryd.pinned (OpenSpec.ofChange routeFindsWrong)

/-- 'wagonwaylaw04.RouteRest': WHATEVER THE INPUT: true; the input reads as it did. -/
def routeRestSpec : ChangeSpec := { name := "routeRest", fn := fun _ => fun
  | [d1, d2, d3, d4, d5] => { results := [.lit (.bool true)], args := [d1, d2, d3, d4, d5] }
  | _ => none }
def routeRestRow : OpenClaim := { program := "ytgdcbjpookldoaadoor", sum := "93da3dee5fc479e35cc0a335e43ec56630123d111129c48b5153124f248de697", func := "wagonway/wagonwaylaw04.RouteRest", spec := "routeRest", inPlace := ["internal/bytealg.IndexByteString", "sync/atomic.LoadUint32", "(*internal/sync.Mutex).Lock", "internal/race.Disable", "sync/atomic.CompareAndSwapInt32", "internal/race.Enable", "internal/race.Acquire", "(*internal/sync.Mutex).lockSlow", "internal/sync.runtime_canSpin", "internal/sync.runtime_doSpin", "internal/sync.throw", "internal/sync.runtime_nanotime", "internal/sync.runtime_SemacquireMutex", "sync/atomic.AddInt32", "(*internal/sync.Mutex).Unlock", "internal/race.ReleaseMerge", "(*internal/sync.Mutex).unlockSlow", "internal/sync.fatal", "internal/sync.runtime_Semrelease", "sync/atomic.StoreUint32"], unfollowed := true, recurses := true, named := ["wagonway/grid.ways"], apart := false, laid := [("wagonway/grid.ways", laid_wagonway_grid_ways)] }
def RouteRestSaid : Prop := routeRestRow.holds Tryd.pinned (OpenSpec.ofChange routeRestSpec)

/-- ITS FALSE NEIGHBOUR: 'it returns false'. Refute it at one input. -/
def routeRestWrong : ChangeSpec := { name := "routeRest", fn := fun _ => fun
  | [d1, d2, d3, d4, d5] => { results := [.lit (.bool false)], args := [d1, d2, d3, d4, d5] }
  | _ => none }
def RouteRestWrongFalsely : Prop := routeRestRow.holds Tryd.pinned (OpenSpec.ofChange routeRestWrong)

/-- 'wagonwaylaw04.RouteBans': WHATEVER THE INPUT: true; the input reads as it did. -/
def routeBansSpec : ChangeSpec := { name := "routeBans", fn := fun _ => fun
  | [d1, d2, d3, d4, d5] => { results := [.lit (.bool true)], args := [d1, d2, d3, d4, d5] }
  | _ => none }
def routeBansRow : OpenClaim := { program := "ytgdcbjpookldoaadoor", sum := "93da3dee5fc479e35cc0a335e43ec56630123d111129c48b5153124f248de697", func := "wagonway/wagonwaylaw04.RouteBans", spec := "routeBans", inPlace := ["internal/bytealg.IndexByteString", "sync/atomic.LoadUint32", "(*internal/sync.Mutex).Lock", "internal/race.Disable", "sync/atomic.CompareAndSwapInt32", "internal/race.Enable", "internal/race.Acquire", "(*internal/sync.Mutex).lockSlow", "internal/sync.runtime_canSpin", "internal/sync.runtime_doSpin", "internal/sync.throw", "internal/sync.runtime_nanotime", "internal/sync.runtime_SemacquireMutex", "sync/atomic.AddInt32", "(*internal/sync.Mutex).Unlock", "internal/race.ReleaseMerge", "(*internal/sync.Mutex).unlockSlow", "internal/sync.fatal", "internal/sync.runtime_Semrelease", "sync/atomic.StoreUint32"], unfollowed := true, recurses := true, named := ["wagonway/grid.ways"], apart := false, laid := [("wagonway/grid.ways", laid_wagonway_grid_ways)] }
def RouteBansSaid : Prop := routeBansRow.holds Tryd.pinned (OpenSpec.ofChange routeBansSpec)

/-- ITS FALSE NEIGHBOUR: 'it returns false'. Refute it at one input. -/
def routeBansWrong : ChangeSpec := { name := "routeBans", fn := fun _ => fun
  | [d1, d2, d3, d4, d5] => { results := [.lit (.bool false)], args := [d1, d2, d3, d4, d5] }
  | _ => none }
def RouteBansWrongFalsely : Prop := routeBansRow.holds Tryd.pinned (OpenSpec.ofChange routeBansWrong)

/-- 'wagonwaylaw04.RouteShort': WHATEVER THE INPUT: true; the input reads as it did. -/
def routeShortSpec : ChangeSpec := { name := "routeShort", fn := fun _ => fun
  | [d1, d2, d3, d4] => { results := [.lit (.bool true)], args := [d1, d2, d3, d4] }
  | _ => none }
def routeShortRow : OpenClaim := { program := "ytgdcbjpookldoaadoor", sum := "93da3dee5fc479e35cc0a335e43ec56630123d111129c48b5153124f248de697", func := "wagonway/wagonwaylaw04.RouteShort", spec := "routeShort", inPlace := ["internal/bytealg.IndexByteString", "sync/atomic.LoadUint32", "(*internal/sync.Mutex).Lock", "internal/race.Disable", "sync/atomic.CompareAndSwapInt32", "internal/race.Enable", "internal/race.Acquire", "(*internal/sync.Mutex).lockSlow", "internal/sync.runtime_canSpin", "internal/sync.runtime_doSpin", "internal/sync.throw", "internal/sync.runtime_nanotime", "internal/sync.runtime_SemacquireMutex", "sync/atomic.AddInt32", "(*internal/sync.Mutex).Unlock", "internal/race.ReleaseMerge", "(*internal/sync.Mutex).unlockSlow", "internal/sync.fatal", "internal/sync.runtime_Semrelease", "sync/atomic.StoreUint32"], unfollowed := true, recurses := true, named := ["wagonway/grid.ways"], apart := false, laid := [("wagonway/grid.ways", laid_wagonway_grid_ways)] }
def RouteShortSaid : Prop := routeShortRow.holds Tryd.pinned (OpenSpec.ofChange routeShortSpec)

/-- ITS FALSE NEIGHBOUR: 'it returns false'. Refute it at one input. -/
def routeShortWrong : ChangeSpec := { name := "routeShort", fn := fun _ => fun
  | [d1, d2, d3, d4] => { results := [.lit (.bool false)], args := [d1, d2, d3, d4] }
  | _ => none }
def RouteShortWrongFalsely : Prop := routeShortRow.holds Tryd.pinned (OpenSpec.ofChange routeShortWrong)

/-- 'wagonwaylaw04.RouteNames': WHATEVER THE INPUT: true; the input reads as it did. -/
def routeNamesSpec : ChangeSpec := { name := "routeNames", fn := fun _ => fun
  | [] => { results := [.lit (.bool true)], args := [] }
  | _ => none }
def routeNamesRow : OpenClaim := { program := "ytgdcbjpookldoaadoor", sum := "93da3dee5fc479e35cc0a335e43ec56630123d111129c48b5153124f248de697", func := "wagonway/wagonwaylaw04.RouteNames", spec := "routeNames", inPlace := ["internal/bytealg.IndexByteString", "sync/atomic.LoadUint32", "(*internal/sync.Mutex).Lock", "internal/race.Disable", "sync/atomic.CompareAndSwapInt32", "internal/race.Enable", "internal/race.Acquire", "(*internal/sync.Mutex).lockSlow", "internal/sync.runtime_canSpin", "internal/sync.runtime_doSpin", "internal/sync.throw", "internal/sync.runtime_nanotime", "internal/sync.runtime_SemacquireMutex", "sync/atomic.AddInt32", "(*internal/sync.Mutex).Unlock", "internal/race.ReleaseMerge", "(*internal/sync.Mutex).unlockSlow", "internal/sync.fatal", "internal/sync.runtime_Semrelease", "sync/atomic.StoreUint32"], unfollowed := true, recurses := true, named := ["wagonway/grid.ways"], apart := false, laid := [("wagonway/grid.ways", laid_wagonway_grid_ways)] }
def RouteNamesSaid : Prop := routeNamesRow.holds Tryd.pinned (OpenSpec.ofChange routeNamesSpec)

/-- ITS FALSE NEIGHBOUR: 'it returns false'. Refute it at one input. -/
def routeNamesWrong : ChangeSpec := { name := "routeNames", fn := fun _ => fun
  | [] => { results := [.lit (.bool false)], args := [] }
  | _ => none }
def RouteNamesWrongFalsely : Prop := routeNamesRow.holds Tryd.pinned (OpenSpec.ofChange routeNamesWrong)

/-- 'wagonwaylaw19.GoalOrder': WHATEVER THE INPUT: true; the input reads as it did. -/
def goalOrderSpec : ChangeSpec := { name := "goalOrder", fn := fun _ => fun
  | [d1, d2, d3] => { results := [.lit (.bool true)], args := [d1, d2, d3] }
  | _ => none }
def goalOrderRow : OpenClaim := { program := "ytgdcbjpookldoaadoor", sum := "93da3dee5fc479e35cc0a335e43ec56630123d111129c48b5153124f248de697", func := "wagonway/wagonwaylaw19.GoalOrder", spec := "goalOrder", inPlace := ["internal/bytealg.IndexByteString", "sync/atomic.LoadUint32", "(*internal/sync.Mutex).Lock", "internal/race.Disable", "sync/atomic.CompareAndSwapInt32", "internal/race.Enable", "internal/race.Acquire", "(*internal/sync.Mutex).lockSlow", "internal/sync.runtime_canSpin", "internal/sync.runtime_doSpin", "internal/sync.throw", "internal/sync.runtime_nanotime", "internal/sync.runtime_SemacquireMutex", "sync/atomic.AddInt32", "(*internal/sync.Mutex).Unlock", "internal/race.ReleaseMerge", "(*internal/sync.Mutex).unlockSlow", "internal/sync.fatal", "internal/sync.runtime_Semrelease", "sync/atomic.StoreUint32"], unfollowed := true, recurses := true, named := ["wagonway/grid.ways"], apart := false, laid := [("wagonway/grid.ways", laid_wagonway_grid_ways)] }
def GoalOrderSaid : Prop := goalOrderRow.holds Tryd.pinned (OpenSpec.ofChange goalOrderSpec)

/-- ITS FALSE NEIGHBOUR: 'it returns false'. Refute it at one input. -/
def goalOrderWrong : ChangeSpec := { name := "goalOrder", fn := fun _ => fun
  | [d1, d2, d3] => { results := [.lit (.bool false)], args := [d1, d2, d3] }
  | _ => none }
def GoalOrderWrongFalsely : Prop := goalOrderRow.holds Tryd.pinned (OpenSpec.ofChange goalOrderWrong)

/-- 'wagonwaylaw19.GoalComes': WHATEVER THE INPUT: true; the input reads as it did. -/
def goalComesSpec : ChangeSpec := { name := "goalComes", fn := fun _ => fun
  | [d1, d2, d3, d4] => { results := [.lit (.bool true)], args := [d1, d2, d3, d4] }
  | _ => none }
def goalComesRow : OpenClaim := { program := "ytgdcbjpookldoaadoor", sum := "93da3dee5fc479e35cc0a335e43ec56630123d111129c48b5153124f248de697", func := "wagonway/wagonwaylaw19.GoalComes", spec := "goalComes", inPlace := ["internal/bytealg.IndexByteString", "sync/atomic.LoadUint32", "(*internal/sync.Mutex).Lock", "internal/race.Disable", "sync/atomic.CompareAndSwapInt32", "internal/race.Enable", "internal/race.Acquire", "(*internal/sync.Mutex).lockSlow", "internal/sync.runtime_canSpin", "internal/sync.runtime_doSpin", "internal/sync.throw", "internal/sync.runtime_nanotime", "internal/sync.runtime_SemacquireMutex", "sync/atomic.AddInt32", "(*internal/sync.Mutex).Unlock", "internal/race.ReleaseMerge", "(*internal/sync.Mutex).unlockSlow", "internal/sync.fatal", "internal/sync.runtime_Semrelease", "sync/atomic.StoreUint32"], unfollowed := true, recurses := true, named := ["wagonway/grid.ways"], apart := false, laid := [("wagonway/grid.ways", laid_wagonway_grid_ways)] }
def GoalComesSaid : Prop := goalComesRow.holds Tryd.pinned (OpenSpec.ofChange goalComesSpec)

/-- ITS FALSE NEIGHBOUR: 'it returns false'. Refute it at one input. -/
def goalComesWrong : ChangeSpec := { name := "goalComes", fn := fun _ => fun
  | [d1, d2, d3, d4] => { results := [.lit (.bool false)], args := [d1, d2, d3, d4] }
  | _ => none }
def GoalComesWrongFalsely : Prop := goalComesRow.holds Tryd.pinned (OpenSpec.ofChange goalComesWrong)

/-- 'wagonwaylaw19.GoalLooks': WHATEVER THE INPUT: true; the input reads as it did. -/
def goalLooksSpec : ChangeSpec := { name := "goalLooks", fn := fun _ => fun
  | [d1, d2] => { results := [.lit (.bool true)], args := [d1, d2] }
  | _ => none }
def goalLooksRow : OpenClaim := { program := "ytgdcbjpookldoaadoor", sum := "93da3dee5fc479e35cc0a335e43ec56630123d111129c48b5153124f248de697", func := "wagonway/wagonwaylaw19.GoalLooks", spec := "goalLooks", inPlace := ["internal/bytealg.IndexByteString", "sync/atomic.LoadUint32", "(*internal/sync.Mutex).Lock", "internal/race.Disable", "sync/atomic.CompareAndSwapInt32", "internal/race.Enable", "internal/race.Acquire", "(*internal/sync.Mutex).lockSlow", "internal/sync.runtime_canSpin", "internal/sync.runtime_doSpin", "internal/sync.throw", "internal/sync.runtime_nanotime", "internal/sync.runtime_SemacquireMutex", "sync/atomic.AddInt32", "(*internal/sync.Mutex).Unlock", "internal/race.ReleaseMerge", "(*internal/sync.Mutex).unlockSlow", "internal/sync.fatal", "internal/sync.runtime_Semrelease", "sync/atomic.StoreUint32"], unfollowed := true, recurses := true, named := ["wagonway/grid.ways"], apart := false, laid := [("wagonway/grid.ways", laid_wagonway_grid_ways)] }
def GoalLooksSaid : Prop := goalLooksRow.holds Tryd.pinned (OpenSpec.ofChange goalLooksSpec)

/-- ITS FALSE NEIGHBOUR: 'it returns false'. Refute it at one input. -/
def goalLooksWrong : ChangeSpec := { name := "goalLooks", fn := fun _ => fun
  | [d1, d2] => { results := [.lit (.bool false)], args := [d1, d2] }
  | _ => none }
def GoalLooksWrongFalsely : Prop := goalLooksRow.holds Tryd.pinned (OpenSpec.ofChange goalLooksWrong)

/-- 'wagonwaylaw19.GoalNames': WHATEVER THE INPUT: true; the input reads as it did. -/
def goalNamesSpec : ChangeSpec := { name := "goalNames", fn := fun _ => fun
  | [] => { results := [.lit (.bool true)], args := [] }
  | _ => none }
def goalNamesRow : OpenClaim := { program := "ytgdcbjpookldoaadoor", sum := "93da3dee5fc479e35cc0a335e43ec56630123d111129c48b5153124f248de697", func := "wagonway/wagonwaylaw19.GoalNames", spec := "goalNames", inPlace := ["internal/bytealg.IndexByteString", "sync/atomic.LoadUint32", "(*internal/sync.Mutex).Lock", "internal/race.Disable", "sync/atomic.CompareAndSwapInt32", "internal/race.Enable", "internal/race.Acquire", "(*internal/sync.Mutex).lockSlow", "internal/sync.runtime_canSpin", "internal/sync.runtime_doSpin", "internal/sync.throw", "internal/sync.runtime_nanotime", "internal/sync.runtime_SemacquireMutex", "sync/atomic.AddInt32", "(*internal/sync.Mutex).Unlock", "internal/race.ReleaseMerge", "(*internal/sync.Mutex).unlockSlow", "internal/sync.fatal", "internal/sync.runtime_Semrelease", "sync/atomic.StoreUint32"], unfollowed := true, recurses := true, named := ["wagonway/grid.ways"], apart := false, laid := [("wagonway/grid.ways", laid_wagonway_grid_ways)] }
def GoalNamesSaid : Prop := goalNamesRow.holds Tryd.pinned (OpenSpec.ofChange goalNamesSpec)

/-- ITS FALSE NEIGHBOUR: 'it returns false'. Refute it at one input. -/
def goalNamesWrong : ChangeSpec := { name := "goalNames", fn := fun _ => fun
  | [] => { results := [.lit (.bool false)], args := [] }
  | _ => none }
def GoalNamesWrongFalsely : Prop := goalNamesRow.holds Tryd.pinned (OpenSpec.ofChange goalNamesWrong)

/- THE SECOND FORM. 'bulk': how many values and letters a reading holds, each counted each time it is reached (what is shared counts as often as it is met; a slice's spare places count too). A statement '..UptoSaid' is the law's where the arguments, and the package variables that the reading takes, are together of bulk at most 1048576: NARROWER than '..Said'. Prove '..Said' where nothing that the law and all that it calls make is longer than what came in: it says more and counts as full. Else prove '..UptoSaid'. A law counts once. -/
mutual
def uptoBulk {H : Type} : DataW H → Nat
  | .lit (.string bytes) => bytes.length + 1
  | .lit _ => 1
  | .nil => 1
  | .ptr d => uptoBulk d + 1
  | .slice elems spare => uptoBulkAll elems + uptoBulkAll spare + 1
  | .agg parts => uptoBulkAll parts + 1
  | .iface _ d => uptoBulk d + 1
  | .map entries => uptoBulkEntries entries + 1
  | .held _ => 1
def uptoBulkAll {H : Type} : List (DataW H) → Nat
  | [] => 0
  | d :: r => uptoBulk d + uptoBulkAll r
def uptoBulkEntries {H : Type} : List (Lit × DataW H) → Nat
  | [] => 0
  | x :: r => uptoBulkEntry x + uptoBulkEntries r
def uptoBulkEntry {H : Type} : Lit × DataW H → Nat
  | (.string bytes, d) => bytes.length + uptoBulk d + 1
  | (_, d) => uptoBulk d + 1
 end
def uptoSmall : (H : Type) → List (DataW H) → Bool := fun _ ds => decide (uptoBulkAll ds ≤ 1048576)
def OpenSpec.upto (s : _root_.Go.ChangeSpec) : _root_.Go.OpenSpec := { _root_.Go.OpenSpec.ofChange s with cond := some uptoSmall }

/-- 'wagonwaylaw04.RouteAround', WHERE WHAT IT READS IS OF BULK AT MOST 1048576: true; the input reads as it did. -/
def routeAroundUptoRow : OpenClaim := { program := "ytgdcbjpookldoaadoor", sum := "93da3dee5fc479e35cc0a335e43ec56630123d111129c48b5153124f248de697", func := "wagonway/wagonwaylaw04.RouteAround", spec := "routeAround", inPlace := ["internal/bytealg.IndexByteString", "sync/atomic.LoadUint32", "(*internal/sync.Mutex).Lock", "internal/race.Disable", "sync/atomic.CompareAndSwapInt32", "internal/race.Enable", "internal/race.Acquire", "(*internal/sync.Mutex).lockSlow", "internal/sync.runtime_canSpin", "internal/sync.runtime_doSpin", "internal/sync.throw", "internal/sync.runtime_nanotime", "internal/sync.runtime_SemacquireMutex", "sync/atomic.AddInt32", "(*internal/sync.Mutex).Unlock", "internal/race.ReleaseMerge", "(*internal/sync.Mutex).unlockSlow", "internal/sync.fatal", "internal/sync.runtime_Semrelease", "sync/atomic.StoreUint32"], unfollowed := true, recurses := true, named := ["wagonway/grid.ways"], apart := false, laid := [("wagonway/grid.ways", laid_wagonway_grid_ways)], narrowed := true }
def RouteAroundUptoSaid : Prop := routeAroundUptoRow.holds Tryd.pinned (OpenSpec.upto routeAroundSpec)

/-- 'wagonwaylaw04.RouteTriangle', WHERE WHAT IT READS IS OF BULK AT MOST 1048576: true; the input reads as it did. -/
def routeTriangleUptoRow : OpenClaim := { program := "ytgdcbjpookldoaadoor", sum := "93da3dee5fc479e35cc0a335e43ec56630123d111129c48b5153124f248de697", func := "wagonway/wagonwaylaw04.RouteTriangle", spec := "routeTriangle", inPlace := ["internal/bytealg.IndexByteString", "sync/atomic.LoadUint32", "(*internal/sync.Mutex).Lock", "internal/race.Disable", "sync/atomic.CompareAndSwapInt32", "internal/race.Enable", "internal/race.Acquire", "(*internal/sync.Mutex).lockSlow", "internal/sync.runtime_canSpin", "internal/sync.runtime_doSpin", "internal/sync.throw", "internal/sync.runtime_nanotime", "internal/sync.runtime_SemacquireMutex", "sync/atomic.AddInt32", "(*internal/sync.Mutex).Unlock", "internal/race.ReleaseMerge", "(*internal/sync.Mutex).unlockSlow", "internal/sync.fatal", "internal/sync.runtime_Semrelease", "sync/atomic.StoreUint32"], unfollowed := true, recurses := true, named := ["wagonway/grid.ways"], apart := false, laid := [("wagonway/grid.ways", laid_wagonway_grid_ways)], narrowed := true }
def RouteTriangleUptoSaid : Prop := routeTriangleUptoRow.holds Tryd.pinned (OpenSpec.upto routeTriangleSpec)

/-- 'wagonwaylaw04.RouteFinds', WHERE WHAT IT READS IS OF BULK AT MOST 1048576: true; the input reads as it did. -/
def routeFindsUptoRow : OpenClaim := { program := "ytgdcbjpookldoaadoor", sum := "93da3dee5fc479e35cc0a335e43ec56630123d111129c48b5153124f248de697", func := "wagonway/wagonwaylaw04.RouteFinds", spec := "routeFinds", inPlace := ["internal/bytealg.IndexByteString", "sync/atomic.LoadUint32", "(*internal/sync.Mutex).Lock", "internal/race.Disable", "sync/atomic.CompareAndSwapInt32", "internal/race.Enable", "internal/race.Acquire", "(*internal/sync.Mutex).lockSlow", "internal/sync.runtime_canSpin", "internal/sync.runtime_doSpin", "internal/sync.throw", "internal/sync.runtime_nanotime", "internal/sync.runtime_SemacquireMutex", "sync/atomic.AddInt32", "(*internal/sync.Mutex).Unlock", "internal/race.ReleaseMerge", "(*internal/sync.Mutex).unlockSlow", "internal/sync.fatal", "internal/sync.runtime_Semrelease", "sync/atomic.StoreUint32"], unfollowed := true, recurses := true, named := ["wagonway/grid.ways"], apart := false, laid := [("wagonway/grid.ways", laid_wagonway_grid_ways)], narrowed := true }
def RouteFindsUptoSaid : Prop := routeFindsUptoRow.holds Tryd.pinned (OpenSpec.upto routeFindsSpec)

/-- 'wagonwaylaw04.RouteRest', WHERE WHAT IT READS IS OF BULK AT MOST 1048576: true; the input reads as it did. -/
def routeRestUptoRow : OpenClaim := { program := "ytgdcbjpookldoaadoor", sum := "93da3dee5fc479e35cc0a335e43ec56630123d111129c48b5153124f248de697", func := "wagonway/wagonwaylaw04.RouteRest", spec := "routeRest", inPlace := ["internal/bytealg.IndexByteString", "sync/atomic.LoadUint32", "(*internal/sync.Mutex).Lock", "internal/race.Disable", "sync/atomic.CompareAndSwapInt32", "internal/race.Enable", "internal/race.Acquire", "(*internal/sync.Mutex).lockSlow", "internal/sync.runtime_canSpin", "internal/sync.runtime_doSpin", "internal/sync.throw", "internal/sync.runtime_nanotime", "internal/sync.runtime_SemacquireMutex", "sync/atomic.AddInt32", "(*internal/sync.Mutex).Unlock", "internal/race.ReleaseMerge", "(*internal/sync.Mutex).unlockSlow", "internal/sync.fatal", "internal/sync.runtime_Semrelease", "sync/atomic.StoreUint32"], unfollowed := true, recurses := true, named := ["wagonway/grid.ways"], apart := false, laid := [("wagonway/grid.ways", laid_wagonway_grid_ways)], narrowed := true }
def RouteRestUptoSaid : Prop := routeRestUptoRow.holds Tryd.pinned (OpenSpec.upto routeRestSpec)

/-- 'wagonwaylaw04.RouteBans', WHERE WHAT IT READS IS OF BULK AT MOST 1048576: true; the input reads as it did. -/
def routeBansUptoRow : OpenClaim := { program := "ytgdcbjpookldoaadoor", sum := "93da3dee5fc479e35cc0a335e43ec56630123d111129c48b5153124f248de697", func := "wagonway/wagonwaylaw04.RouteBans", spec := "routeBans", inPlace := ["internal/bytealg.IndexByteString", "sync/atomic.LoadUint32", "(*internal/sync.Mutex).Lock", "internal/race.Disable", "sync/atomic.CompareAndSwapInt32", "internal/race.Enable", "internal/race.Acquire", "(*internal/sync.Mutex).lockSlow", "internal/sync.runtime_canSpin", "internal/sync.runtime_doSpin", "internal/sync.throw", "internal/sync.runtime_nanotime", "internal/sync.runtime_SemacquireMutex", "sync/atomic.AddInt32", "(*internal/sync.Mutex).Unlock", "internal/race.ReleaseMerge", "(*internal/sync.Mutex).unlockSlow", "internal/sync.fatal", "internal/sync.runtime_Semrelease", "sync/atomic.StoreUint32"], unfollowed := true, recurses := true, named := ["wagonway/grid.ways"], apart := false, laid := [("wagonway/grid.ways", laid_wagonway_grid_ways)], narrowed := true }
def RouteBansUptoSaid : Prop := routeBansUptoRow.holds Tryd.pinned (OpenSpec.upto routeBansSpec)

/-- 'wagonwaylaw04.RouteShort', WHERE WHAT IT READS IS OF BULK AT MOST 1048576: true; the input reads as it did. -/
def routeShortUptoRow : OpenClaim := { program := "ytgdcbjpookldoaadoor", sum := "93da3dee5fc479e35cc0a335e43ec56630123d111129c48b5153124f248de697", func := "wagonway/wagonwaylaw04.RouteShort", spec := "routeShort", inPlace := ["internal/bytealg.IndexByteString", "sync/atomic.LoadUint32", "(*internal/sync.Mutex).Lock", "internal/race.Disable", "sync/atomic.CompareAndSwapInt32", "internal/race.Enable", "internal/race.Acquire", "(*internal/sync.Mutex).lockSlow", "internal/sync.runtime_canSpin", "internal/sync.runtime_doSpin", "internal/sync.throw", "internal/sync.runtime_nanotime", "internal/sync.runtime_SemacquireMutex", "sync/atomic.AddInt32", "(*internal/sync.Mutex).Unlock", "internal/race.ReleaseMerge", "(*internal/sync.Mutex).unlockSlow", "internal/sync.fatal", "internal/sync.runtime_Semrelease", "sync/atomic.StoreUint32"], unfollowed := true, recurses := true, named := ["wagonway/grid.ways"], apart := false, laid := [("wagonway/grid.ways", laid_wagonway_grid_ways)], narrowed := true }
def RouteShortUptoSaid : Prop := routeShortUptoRow.holds Tryd.pinned (OpenSpec.upto routeShortSpec)

/-- 'wagonwaylaw04.RouteNames', WHERE WHAT IT READS IS OF BULK AT MOST 1048576: true; the input reads as it did. -/
def routeNamesUptoRow : OpenClaim := { program := "ytgdcbjpookldoaadoor", sum := "93da3dee5fc479e35cc0a335e43ec56630123d111129c48b5153124f248de697", func := "wagonway/wagonwaylaw04.RouteNames", spec := "routeNames", inPlace := ["internal/bytealg.IndexByteString", "sync/atomic.LoadUint32", "(*internal/sync.Mutex).Lock", "internal/race.Disable", "sync/atomic.CompareAndSwapInt32", "internal/race.Enable", "internal/race.Acquire", "(*internal/sync.Mutex).lockSlow", "internal/sync.runtime_canSpin", "internal/sync.runtime_doSpin", "internal/sync.throw", "internal/sync.runtime_nanotime", "internal/sync.runtime_SemacquireMutex", "sync/atomic.AddInt32", "(*internal/sync.Mutex).Unlock", "internal/race.ReleaseMerge", "(*internal/sync.Mutex).unlockSlow", "internal/sync.fatal", "internal/sync.runtime_Semrelease", "sync/atomic.StoreUint32"], unfollowed := true, recurses := true, named := ["wagonway/grid.ways"], apart := false, laid := [("wagonway/grid.ways", laid_wagonway_grid_ways)], narrowed := true }
def RouteNamesUptoSaid : Prop := routeNamesUptoRow.holds Tryd.pinned (OpenSpec.upto routeNamesSpec)

/-- 'wagonwaylaw19.GoalOrder', WHERE WHAT IT READS IS OF BULK AT MOST 1048576: true; the input reads as it did. -/
def goalOrderUptoRow : OpenClaim := { program := "ytgdcbjpookldoaadoor", sum := "93da3dee5fc479e35cc0a335e43ec56630123d111129c48b5153124f248de697", func := "wagonway/wagonwaylaw19.GoalOrder", spec := "goalOrder", inPlace := ["internal/bytealg.IndexByteString", "sync/atomic.LoadUint32", "(*internal/sync.Mutex).Lock", "internal/race.Disable", "sync/atomic.CompareAndSwapInt32", "internal/race.Enable", "internal/race.Acquire", "(*internal/sync.Mutex).lockSlow", "internal/sync.runtime_canSpin", "internal/sync.runtime_doSpin", "internal/sync.throw", "internal/sync.runtime_nanotime", "internal/sync.runtime_SemacquireMutex", "sync/atomic.AddInt32", "(*internal/sync.Mutex).Unlock", "internal/race.ReleaseMerge", "(*internal/sync.Mutex).unlockSlow", "internal/sync.fatal", "internal/sync.runtime_Semrelease", "sync/atomic.StoreUint32"], unfollowed := true, recurses := true, named := ["wagonway/grid.ways"], apart := false, laid := [("wagonway/grid.ways", laid_wagonway_grid_ways)], narrowed := true }
def GoalOrderUptoSaid : Prop := goalOrderUptoRow.holds Tryd.pinned (OpenSpec.upto goalOrderSpec)

/-- 'wagonwaylaw19.GoalComes', WHERE WHAT IT READS IS OF BULK AT MOST 1048576: true; the input reads as it did. -/
def goalComesUptoRow : OpenClaim := { program := "ytgdcbjpookldoaadoor", sum := "93da3dee5fc479e35cc0a335e43ec56630123d111129c48b5153124f248de697", func := "wagonway/wagonwaylaw19.GoalComes", spec := "goalComes", inPlace := ["internal/bytealg.IndexByteString", "sync/atomic.LoadUint32", "(*internal/sync.Mutex).Lock", "internal/race.Disable", "sync/atomic.CompareAndSwapInt32", "internal/race.Enable", "internal/race.Acquire", "(*internal/sync.Mutex).lockSlow", "internal/sync.runtime_canSpin", "internal/sync.runtime_doSpin", "internal/sync.throw", "internal/sync.runtime_nanotime", "internal/sync.runtime_SemacquireMutex", "sync/atomic.AddInt32", "(*internal/sync.Mutex).Unlock", "internal/race.ReleaseMerge", "(*internal/sync.Mutex).unlockSlow", "internal/sync.fatal", "internal/sync.runtime_Semrelease", "sync/atomic.StoreUint32"], unfollowed := true, recurses := true, named := ["wagonway/grid.ways"], apart := false, laid := [("wagonway/grid.ways", laid_wagonway_grid_ways)], narrowed := true }
def GoalComesUptoSaid : Prop := goalComesUptoRow.holds Tryd.pinned (OpenSpec.upto goalComesSpec)

/-- 'wagonwaylaw19.GoalLooks', WHERE WHAT IT READS IS OF BULK AT MOST 1048576: true; the input reads as it did. -/
def goalLooksUptoRow : OpenClaim := { program := "ytgdcbjpookldoaadoor", sum := "93da3dee5fc479e35cc0a335e43ec56630123d111129c48b5153124f248de697", func := "wagonway/wagonwaylaw19.GoalLooks", spec := "goalLooks", inPlace := ["internal/bytealg.IndexByteString", "sync/atomic.LoadUint32", "(*internal/sync.Mutex).Lock", "internal/race.Disable", "sync/atomic.CompareAndSwapInt32", "internal/race.Enable", "internal/race.Acquire", "(*internal/sync.Mutex).lockSlow", "internal/sync.runtime_canSpin", "internal/sync.runtime_doSpin", "internal/sync.throw", "internal/sync.runtime_nanotime", "internal/sync.runtime_SemacquireMutex", "sync/atomic.AddInt32", "(*internal/sync.Mutex).Unlock", "internal/race.ReleaseMerge", "(*internal/sync.Mutex).unlockSlow", "internal/sync.fatal", "internal/sync.runtime_Semrelease", "sync/atomic.StoreUint32"], unfollowed := true, recurses := true, named := ["wagonway/grid.ways"], apart := false, laid := [("wagonway/grid.ways", laid_wagonway_grid_ways)], narrowed := true }
def GoalLooksUptoSaid : Prop := goalLooksUptoRow.holds Tryd.pinned (OpenSpec.upto goalLooksSpec)

/-- 'wagonwaylaw19.GoalNames', WHERE WHAT IT READS IS OF BULK AT MOST 1048576: true; the input reads as it did. -/
def goalNamesUptoRow : OpenClaim := { program := "ytgdcbjpookldoaadoor", sum := "93da3dee5fc479e35cc0a335e43ec56630123d111129c48b5153124f248de697", func := "wagonway/wagonwaylaw19.GoalNames", spec := "goalNames", inPlace := ["internal/bytealg.IndexByteString", "sync/atomic.LoadUint32", "(*internal/sync.Mutex).Lock", "internal/race.Disable", "sync/atomic.CompareAndSwapInt32", "internal/race.Enable", "internal/race.Acquire", "(*internal/sync.Mutex).lockSlow", "internal/sync.runtime_canSpin", "internal/sync.runtime_doSpin", "internal/sync.throw", "internal/sync.runtime_nanotime", "internal/sync.runtime_SemacquireMutex", "sync/atomic.AddInt32", "(*internal/sync.Mutex).Unlock", "internal/race.ReleaseMerge", "(*internal/sync.Mutex).unlockSlow", "internal/sync.fatal", "internal/sync.runtime_Semrelease", "sync/atomic.StoreUint32"], unfollowed := true, recurses := true, named := ["wagonway/grid.ways"], apart := false, laid := [("wagonway/grid.ways", laid_wagonway_grid_ways)], narrowed := true }
def GoalNamesUptoSaid : Prop := goalNamesUptoRow.holds Tryd.pinned (OpenSpec.upto goalNamesSpec)

end Rows
end Go.Proofs.YtgdcbjpookldoaaDoor
