/-
  DERIVED. GIVEN WITH THE SEED: THE CARDS: each row of YtgdcbjpookldoaaDoorRows.lean that lists a variable, with what it lists TIED to the program's text (the seventh form; the later family's looks); each row that meets fmt, with fmt's text TOLD by the authors' own Lean function (tested against real Go, not proved from fmt's source: count such statements apart). THE CARD IS WHAT COUNTS. Prove the row's statement (the work); the ties are given (YtgdcbjpookldoaaDoorTie.lean); close each card by the builder's one call (the guide's Derived/Test/ToyasCard.lean, 'card_holds'). Laid BY PROGRAM, IN A SANDBOX (cutbox-door.mjs). By AI agents, Wed Nov 11 2026. No macro, syntax, notation, axiom, sorry.
-/
import Derived.Test.YtgdcbjpookldoaaDoorRows
import GoSem.ClaimSeven
namespace Go.Proofs.YtgdcbjpookldoaaDoor
namespace Rows

/-- THE TIED CARD OF 'wagonwaylaw04.RouteAround'. -/
def routeAroundCard : Claim7 := { stood := { row := routeAroundRow, standIns := [], harness := (true, "0cbbd63b5a3d5f4a59e5a13d2fcfc3feaae4d2d7b44f0d172a8175cd2a33a1ae"), looks := false }, kinds := [], alts := [], laidByText := true, laidKinds := [.data], laidTests := true, laidLooks := .later }
def RouteAroundCardSaid : Prop := Claim7.holds Tryd.pinned (.plain (OpenSpec.ofChange routeAroundSpec)) routeAroundCard

/-- THE TIED CARD OF 'wagonwaylaw04.RouteTriangle'. -/
def routeTriangleCard : Claim7 := { stood := { row := routeTriangleRow, standIns := [], harness := (true, "0cbbd63b5a3d5f4a59e5a13d2fcfc3feaae4d2d7b44f0d172a8175cd2a33a1ae"), looks := false }, kinds := [], alts := [], laidByText := true, laidKinds := [.data], laidTests := true, laidLooks := .later }
def RouteTriangleCardSaid : Prop := Claim7.holds Tryd.pinned (.plain (OpenSpec.ofChange routeTriangleSpec)) routeTriangleCard

/-- THE TIED CARD OF 'wagonwaylaw04.RouteFinds'. -/
def routeFindsCard : Claim7 := { stood := { row := routeFindsRow, standIns := [], harness := (true, "0cbbd63b5a3d5f4a59e5a13d2fcfc3feaae4d2d7b44f0d172a8175cd2a33a1ae"), looks := false }, kinds := [], alts := [], laidByText := true, laidKinds := [.data], laidTests := true, laidLooks := .later }
def RouteFindsCardSaid : Prop := Claim7.holds Tryd.pinned (.plain (OpenSpec.ofChange routeFindsSpec)) routeFindsCard

/-- THE TIED CARD OF 'wagonwaylaw04.RouteRest'. -/
def routeRestCard : Claim7 := { stood := { row := routeRestRow, standIns := [], harness := (true, "0cbbd63b5a3d5f4a59e5a13d2fcfc3feaae4d2d7b44f0d172a8175cd2a33a1ae"), looks := false }, kinds := [], alts := [], laidByText := true, laidKinds := [.data], laidTests := true, laidLooks := .later }
def RouteRestCardSaid : Prop := Claim7.holds Tryd.pinned (.plain (OpenSpec.ofChange routeRestSpec)) routeRestCard

/-- THE TIED CARD OF 'wagonwaylaw04.RouteBans'. -/
def routeBansCard : Claim7 := { stood := { row := routeBansRow, standIns := [], harness := (true, "0cbbd63b5a3d5f4a59e5a13d2fcfc3feaae4d2d7b44f0d172a8175cd2a33a1ae"), looks := false }, kinds := [], alts := [], laidByText := true, laidKinds := [.data], laidTests := true, laidLooks := .later }
def RouteBansCardSaid : Prop := Claim7.holds Tryd.pinned (.plain (OpenSpec.ofChange routeBansSpec)) routeBansCard

/-- THE TIED CARD OF 'wagonwaylaw04.RouteShort'. -/
def routeShortCard : Claim7 := { stood := { row := routeShortRow, standIns := [], harness := (true, "0cbbd63b5a3d5f4a59e5a13d2fcfc3feaae4d2d7b44f0d172a8175cd2a33a1ae"), looks := false }, kinds := [], alts := [], laidByText := true, laidKinds := [.data], laidTests := true, laidLooks := .later }
def RouteShortCardSaid : Prop := Claim7.holds Tryd.pinned (.plain (OpenSpec.ofChange routeShortSpec)) routeShortCard

/-- THE TIED CARD OF 'wagonwaylaw04.RouteNames'. -/
def routeNamesCard : Claim7 := { stood := { row := routeNamesRow, standIns := [], harness := (true, "0cbbd63b5a3d5f4a59e5a13d2fcfc3feaae4d2d7b44f0d172a8175cd2a33a1ae"), looks := false }, kinds := [], alts := [], laidByText := true, laidKinds := [.data], laidTests := true, laidLooks := .later }
def RouteNamesCardSaid : Prop := Claim7.holds Tryd.pinned (.plain (OpenSpec.ofChange routeNamesSpec)) routeNamesCard

/-- THE TIED CARD OF 'wagonwaylaw19.GoalOrder'. -/
def goalOrderCard : Claim7 := { stood := { row := goalOrderRow, standIns := [], harness := (true, "0cbbd63b5a3d5f4a59e5a13d2fcfc3feaae4d2d7b44f0d172a8175cd2a33a1ae"), looks := false }, kinds := [], alts := [], laidByText := true, laidKinds := [.data], laidTests := true, laidLooks := .later }
def GoalOrderCardSaid : Prop := Claim7.holds Tryd.pinned (.plain (OpenSpec.ofChange goalOrderSpec)) goalOrderCard

/-- THE TIED CARD OF 'wagonwaylaw19.GoalComes'. -/
def goalComesCard : Claim7 := { stood := { row := goalComesRow, standIns := [], harness := (true, "0cbbd63b5a3d5f4a59e5a13d2fcfc3feaae4d2d7b44f0d172a8175cd2a33a1ae"), looks := false }, kinds := [], alts := [], laidByText := true, laidKinds := [.data], laidTests := true, laidLooks := .later }
def GoalComesCardSaid : Prop := Claim7.holds Tryd.pinned (.plain (OpenSpec.ofChange goalComesSpec)) goalComesCard

/-- THE TIED CARD OF 'wagonwaylaw19.GoalLooks'. -/
def goalLooksCard : Claim7 := { stood := { row := goalLooksRow, standIns := [], harness := (true, "0cbbd63b5a3d5f4a59e5a13d2fcfc3feaae4d2d7b44f0d172a8175cd2a33a1ae"), looks := false }, kinds := [], alts := [], laidByText := true, laidKinds := [.data], laidTests := true, laidLooks := .later }
def GoalLooksCardSaid : Prop := Claim7.holds Tryd.pinned (.plain (OpenSpec.ofChange goalLooksSpec)) goalLooksCard

/-- THE TIED CARD OF 'wagonwaylaw19.GoalNames'. -/
def goalNamesCard : Claim7 := { stood := { row := goalNamesRow, standIns := [], harness := (true, "0cbbd63b5a3d5f4a59e5a13d2fcfc3feaae4d2d7b44f0d172a8175cd2a33a1ae"), looks := false }, kinds := [], alts := [], laidByText := true, laidKinds := [.data], laidTests := true, laidLooks := .later }
def GoalNamesCardSaid : Prop := Claim7.holds Tryd.pinned (.plain (OpenSpec.ofChange goalNamesSpec)) goalNamesCard

/-- THE SECOND FORM's CARD OF 'wagonwaylaw04.RouteAround'. -/
def routeAroundUptoCard : Claim7 := { stood := { row := routeAroundUptoRow, standIns := [], harness := (true, "0cbbd63b5a3d5f4a59e5a13d2fcfc3feaae4d2d7b44f0d172a8175cd2a33a1ae"), looks := false }, kinds := [], alts := [], laidByText := true, laidKinds := [.data], laidTests := true, laidLooks := .later }
def RouteAroundUptoCardSaid : Prop := Claim7.holds Tryd.pinned (.plain (OpenSpec.upto routeAroundSpec)) routeAroundUptoCard

/-- THE SECOND FORM's CARD OF 'wagonwaylaw04.RouteTriangle'. -/
def routeTriangleUptoCard : Claim7 := { stood := { row := routeTriangleUptoRow, standIns := [], harness := (true, "0cbbd63b5a3d5f4a59e5a13d2fcfc3feaae4d2d7b44f0d172a8175cd2a33a1ae"), looks := false }, kinds := [], alts := [], laidByText := true, laidKinds := [.data], laidTests := true, laidLooks := .later }
def RouteTriangleUptoCardSaid : Prop := Claim7.holds Tryd.pinned (.plain (OpenSpec.upto routeTriangleSpec)) routeTriangleUptoCard

/-- THE SECOND FORM's CARD OF 'wagonwaylaw04.RouteFinds'. -/
def routeFindsUptoCard : Claim7 := { stood := { row := routeFindsUptoRow, standIns := [], harness := (true, "0cbbd63b5a3d5f4a59e5a13d2fcfc3feaae4d2d7b44f0d172a8175cd2a33a1ae"), looks := false }, kinds := [], alts := [], laidByText := true, laidKinds := [.data], laidTests := true, laidLooks := .later }
def RouteFindsUptoCardSaid : Prop := Claim7.holds Tryd.pinned (.plain (OpenSpec.upto routeFindsSpec)) routeFindsUptoCard

/-- THE SECOND FORM's CARD OF 'wagonwaylaw04.RouteRest'. -/
def routeRestUptoCard : Claim7 := { stood := { row := routeRestUptoRow, standIns := [], harness := (true, "0cbbd63b5a3d5f4a59e5a13d2fcfc3feaae4d2d7b44f0d172a8175cd2a33a1ae"), looks := false }, kinds := [], alts := [], laidByText := true, laidKinds := [.data], laidTests := true, laidLooks := .later }
def RouteRestUptoCardSaid : Prop := Claim7.holds Tryd.pinned (.plain (OpenSpec.upto routeRestSpec)) routeRestUptoCard

/-- THE SECOND FORM's CARD OF 'wagonwaylaw04.RouteBans'. -/
def routeBansUptoCard : Claim7 := { stood := { row := routeBansUptoRow, standIns := [], harness := (true, "0cbbd63b5a3d5f4a59e5a13d2fcfc3feaae4d2d7b44f0d172a8175cd2a33a1ae"), looks := false }, kinds := [], alts := [], laidByText := true, laidKinds := [.data], laidTests := true, laidLooks := .later }
def RouteBansUptoCardSaid : Prop := Claim7.holds Tryd.pinned (.plain (OpenSpec.upto routeBansSpec)) routeBansUptoCard

/-- THE SECOND FORM's CARD OF 'wagonwaylaw04.RouteShort'. -/
def routeShortUptoCard : Claim7 := { stood := { row := routeShortUptoRow, standIns := [], harness := (true, "0cbbd63b5a3d5f4a59e5a13d2fcfc3feaae4d2d7b44f0d172a8175cd2a33a1ae"), looks := false }, kinds := [], alts := [], laidByText := true, laidKinds := [.data], laidTests := true, laidLooks := .later }
def RouteShortUptoCardSaid : Prop := Claim7.holds Tryd.pinned (.plain (OpenSpec.upto routeShortSpec)) routeShortUptoCard

/-- THE SECOND FORM's CARD OF 'wagonwaylaw04.RouteNames'. -/
def routeNamesUptoCard : Claim7 := { stood := { row := routeNamesUptoRow, standIns := [], harness := (true, "0cbbd63b5a3d5f4a59e5a13d2fcfc3feaae4d2d7b44f0d172a8175cd2a33a1ae"), looks := false }, kinds := [], alts := [], laidByText := true, laidKinds := [.data], laidTests := true, laidLooks := .later }
def RouteNamesUptoCardSaid : Prop := Claim7.holds Tryd.pinned (.plain (OpenSpec.upto routeNamesSpec)) routeNamesUptoCard

/-- THE SECOND FORM's CARD OF 'wagonwaylaw19.GoalOrder'. -/
def goalOrderUptoCard : Claim7 := { stood := { row := goalOrderUptoRow, standIns := [], harness := (true, "0cbbd63b5a3d5f4a59e5a13d2fcfc3feaae4d2d7b44f0d172a8175cd2a33a1ae"), looks := false }, kinds := [], alts := [], laidByText := true, laidKinds := [.data], laidTests := true, laidLooks := .later }
def GoalOrderUptoCardSaid : Prop := Claim7.holds Tryd.pinned (.plain (OpenSpec.upto goalOrderSpec)) goalOrderUptoCard

/-- THE SECOND FORM's CARD OF 'wagonwaylaw19.GoalComes'. -/
def goalComesUptoCard : Claim7 := { stood := { row := goalComesUptoRow, standIns := [], harness := (true, "0cbbd63b5a3d5f4a59e5a13d2fcfc3feaae4d2d7b44f0d172a8175cd2a33a1ae"), looks := false }, kinds := [], alts := [], laidByText := true, laidKinds := [.data], laidTests := true, laidLooks := .later }
def GoalComesUptoCardSaid : Prop := Claim7.holds Tryd.pinned (.plain (OpenSpec.upto goalComesSpec)) goalComesUptoCard

/-- THE SECOND FORM's CARD OF 'wagonwaylaw19.GoalLooks'. -/
def goalLooksUptoCard : Claim7 := { stood := { row := goalLooksUptoRow, standIns := [], harness := (true, "0cbbd63b5a3d5f4a59e5a13d2fcfc3feaae4d2d7b44f0d172a8175cd2a33a1ae"), looks := false }, kinds := [], alts := [], laidByText := true, laidKinds := [.data], laidTests := true, laidLooks := .later }
def GoalLooksUptoCardSaid : Prop := Claim7.holds Tryd.pinned (.plain (OpenSpec.upto goalLooksSpec)) goalLooksUptoCard

/-- THE SECOND FORM's CARD OF 'wagonwaylaw19.GoalNames'. -/
def goalNamesUptoCard : Claim7 := { stood := { row := goalNamesUptoRow, standIns := [], harness := (true, "0cbbd63b5a3d5f4a59e5a13d2fcfc3feaae4d2d7b44f0d172a8175cd2a33a1ae"), looks := false }, kinds := [], alts := [], laidByText := true, laidKinds := [.data], laidTests := true, laidLooks := .later }
def GoalNamesUptoCardSaid : Prop := Claim7.holds Tryd.pinned (.plain (OpenSpec.upto goalNamesSpec)) goalNamesUptoCard
end Rows
end Go.Proofs.YtgdcbjpookldoaaDoor
