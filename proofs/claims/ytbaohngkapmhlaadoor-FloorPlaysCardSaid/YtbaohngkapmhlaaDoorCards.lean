/-
  DERIVED. GIVEN WITH THE SEED: THE CARDS: each row of YtbaohngkapmhlaaDoorRows.lean that lists a variable, with what it lists TIED to the program's text (the seventh form; the later family's looks); each row that meets fmt, with fmt's text TOLD by the authors' own Lean function (tested against real Go, not proved from fmt's source: count such statements apart). THE CARD IS WHAT COUNTS. Prove the row's statement (the work); the ties are given (YtbaohngkapmhlaaDoorTie.lean); close each card by the builder's one call (the guide's Derived/Test/ToyasCard.lean, 'card_holds'). Laid BY PROGRAM, IN A SANDBOX (cutbox-door.mjs). By AI agents, Wed Nov 11 2026. No macro, syntax, notation, axiom, sorry.
-/
import Derived.Test.YtbaohngkapmhlaaDoorRows
import GoSem.ClaimSeven
namespace Go.Proofs.YtbaohngkapmhlaaDoor
namespace Rows

/-- THE TIED CARD OF 'wagonwaylaw22.FloorOpen'. -/
def floorOpenCard : Claim7 := { stood := { row := floorOpenRow, standIns := [], harness := (true, "9e40ad7a5cb37565901db7919502e8a4fee5110b4fab4039f26e374d60efc3e0"), looks := false }, kinds := [], alts := [], laidByText := true, laidKinds := [.data], laidTests := true, laidLooks := .later }
def FloorOpenCardSaid : Prop := Claim7.holds Tryd.pinned (.plain (OpenSpec.ofChange floorOpenSpec)) floorOpenCard

/-- THE TIED CARD OF 'wagonwaylaw22.FloorSafe'. -/
def floorSafeCard : Claim7 := { stood := { row := floorSafeRow, standIns := [], harness := (true, "9e40ad7a5cb37565901db7919502e8a4fee5110b4fab4039f26e374d60efc3e0"), looks := false }, kinds := [], alts := [], laidByText := true, laidKinds := [.data], laidTests := true, laidLooks := .later }
def FloorSafeCardSaid : Prop := Claim7.holds Tryd.pinned (.plain (OpenSpec.ofChange floorSafeSpec)) floorSafeCard

/-- THE TIED CARD OF 'wagonwaylaw22.FloorPlays'. -/
def floorPlaysCard : Claim7 := { stood := { row := floorPlaysRow, standIns := [], harness := (true, "9e40ad7a5cb37565901db7919502e8a4fee5110b4fab4039f26e374d60efc3e0"), looks := false }, kinds := [], alts := [], laidByText := true, laidKinds := [.data], laidTests := true, laidLooks := .later }
def FloorPlaysCardSaid : Prop := Claim7.holds Tryd.pinned (.plain (OpenSpec.ofChange floorPlaysSpec)) floorPlaysCard

/-- THE TIED CARD OF 'wagonwaylaw22.FloorShows'. -/
def floorShowsCard : Claim7 := { stood := { row := floorShowsRow, standIns := [], harness := (true, "9e40ad7a5cb37565901db7919502e8a4fee5110b4fab4039f26e374d60efc3e0"), looks := false }, kinds := [], alts := [], laidByText := true, laidKinds := [.data], laidTests := true, laidLooks := .later }
def FloorShowsCardSaid : Prop := Claim7.holds Tryd.pinned (.plain (OpenSpec.ofChange floorShowsSpec)) floorShowsCard

/-- THE TIED CARD OF 'wagonwaylaw25.PebbleChecks'. -/
def pebbleChecksCard : Claim7 := { stood := { row := pebbleChecksRow, standIns := [], harness := (true, "9e40ad7a5cb37565901db7919502e8a4fee5110b4fab4039f26e374d60efc3e0"), looks := false }, kinds := [], alts := [], laidByText := true, laidKinds := [.data], laidTests := true, laidLooks := .later }
def PebbleChecksCardSaid : Prop := Claim7.holds Tryd.pinned (.plain (OpenSpec.ofChange pebbleChecksSpec)) pebbleChecksCard

/-- THE TIED CARD OF 'wagonwaylaw25.PebbleRuns'. -/
def pebbleRunsCard : Claim7 := { stood := { row := pebbleRunsRow, standIns := [], harness := (true, "9e40ad7a5cb37565901db7919502e8a4fee5110b4fab4039f26e374d60efc3e0"), looks := false }, kinds := [], alts := [], laidByText := true, laidKinds := [.data], laidTests := true, laidLooks := .later }
def PebbleRunsCardSaid : Prop := Claim7.holds Tryd.pinned (.plain (OpenSpec.ofChange pebbleRunsSpec)) pebbleRunsCard

/-- THE TIED CARD OF 'wagonwaylaw25.PebbleUndone'. -/
def pebbleUndoneCard : Claim7 := { stood := { row := pebbleUndoneRow, standIns := [], harness := (true, "9e40ad7a5cb37565901db7919502e8a4fee5110b4fab4039f26e374d60efc3e0"), looks := false }, kinds := [], alts := [], laidByText := true, laidKinds := [.data], laidTests := true, laidLooks := .later }
def PebbleUndoneCardSaid : Prop := Claim7.holds Tryd.pinned (.plain (OpenSpec.ofChange pebbleUndoneSpec)) pebbleUndoneCard

/-- THE TIED CARD OF 'wagonwaylaw25.PebbleApart'. -/
def pebbleApartCard : Claim7 := { stood := { row := pebbleApartRow, standIns := [], harness := (true, "9e40ad7a5cb37565901db7919502e8a4fee5110b4fab4039f26e374d60efc3e0"), looks := false }, kinds := [], alts := [], laidByText := true, laidKinds := [.data], laidTests := true, laidLooks := .later }
def PebbleApartCardSaid : Prop := Claim7.holds Tryd.pinned (.plain (OpenSpec.ofChange pebbleApartSpec)) pebbleApartCard

/-- THE TIED CARD OF 'wagonwaylaw25.PebbleSafe'. -/
def pebbleSafeCard : Claim7 := { stood := { row := pebbleSafeRow, standIns := [], harness := (true, "9e40ad7a5cb37565901db7919502e8a4fee5110b4fab4039f26e374d60efc3e0"), looks := false }, kinds := [], alts := [], laidByText := true, laidKinds := [.data], laidTests := true, laidLooks := .later }
def PebbleSafeCardSaid : Prop := Claim7.holds Tryd.pinned (.plain (OpenSpec.ofChange pebbleSafeSpec)) pebbleSafeCard

/-- THE SECOND FORM's CARD OF 'wagonwaylaw22.FloorOpen'. -/
def floorOpenUptoCard : Claim7 := { stood := { row := floorOpenUptoRow, standIns := [], harness := (true, "9e40ad7a5cb37565901db7919502e8a4fee5110b4fab4039f26e374d60efc3e0"), looks := false }, kinds := [], alts := [], laidByText := true, laidKinds := [.data], laidTests := true, laidLooks := .later }
def FloorOpenUptoCardSaid : Prop := Claim7.holds Tryd.pinned (.plain (OpenSpec.upto floorOpenSpec)) floorOpenUptoCard

/-- THE SECOND FORM's CARD OF 'wagonwaylaw22.FloorSafe'. -/
def floorSafeUptoCard : Claim7 := { stood := { row := floorSafeUptoRow, standIns := [], harness := (true, "9e40ad7a5cb37565901db7919502e8a4fee5110b4fab4039f26e374d60efc3e0"), looks := false }, kinds := [], alts := [], laidByText := true, laidKinds := [.data], laidTests := true, laidLooks := .later }
def FloorSafeUptoCardSaid : Prop := Claim7.holds Tryd.pinned (.plain (OpenSpec.upto floorSafeSpec)) floorSafeUptoCard

/-- THE SECOND FORM's CARD OF 'wagonwaylaw22.FloorPlays'. -/
def floorPlaysUptoCard : Claim7 := { stood := { row := floorPlaysUptoRow, standIns := [], harness := (true, "9e40ad7a5cb37565901db7919502e8a4fee5110b4fab4039f26e374d60efc3e0"), looks := false }, kinds := [], alts := [], laidByText := true, laidKinds := [.data], laidTests := true, laidLooks := .later }
def FloorPlaysUptoCardSaid : Prop := Claim7.holds Tryd.pinned (.plain (OpenSpec.upto floorPlaysSpec)) floorPlaysUptoCard

/-- THE SECOND FORM's CARD OF 'wagonwaylaw22.FloorShows'. -/
def floorShowsUptoCard : Claim7 := { stood := { row := floorShowsUptoRow, standIns := [], harness := (true, "9e40ad7a5cb37565901db7919502e8a4fee5110b4fab4039f26e374d60efc3e0"), looks := false }, kinds := [], alts := [], laidByText := true, laidKinds := [.data], laidTests := true, laidLooks := .later }
def FloorShowsUptoCardSaid : Prop := Claim7.holds Tryd.pinned (.plain (OpenSpec.upto floorShowsSpec)) floorShowsUptoCard

/-- THE SECOND FORM's CARD OF 'wagonwaylaw25.PebbleChecks'. -/
def pebbleChecksUptoCard : Claim7 := { stood := { row := pebbleChecksUptoRow, standIns := [], harness := (true, "9e40ad7a5cb37565901db7919502e8a4fee5110b4fab4039f26e374d60efc3e0"), looks := false }, kinds := [], alts := [], laidByText := true, laidKinds := [.data], laidTests := true, laidLooks := .later }
def PebbleChecksUptoCardSaid : Prop := Claim7.holds Tryd.pinned (.plain (OpenSpec.upto pebbleChecksSpec)) pebbleChecksUptoCard

/-- THE SECOND FORM's CARD OF 'wagonwaylaw25.PebbleRuns'. -/
def pebbleRunsUptoCard : Claim7 := { stood := { row := pebbleRunsUptoRow, standIns := [], harness := (true, "9e40ad7a5cb37565901db7919502e8a4fee5110b4fab4039f26e374d60efc3e0"), looks := false }, kinds := [], alts := [], laidByText := true, laidKinds := [.data], laidTests := true, laidLooks := .later }
def PebbleRunsUptoCardSaid : Prop := Claim7.holds Tryd.pinned (.plain (OpenSpec.upto pebbleRunsSpec)) pebbleRunsUptoCard

/-- THE SECOND FORM's CARD OF 'wagonwaylaw25.PebbleUndone'. -/
def pebbleUndoneUptoCard : Claim7 := { stood := { row := pebbleUndoneUptoRow, standIns := [], harness := (true, "9e40ad7a5cb37565901db7919502e8a4fee5110b4fab4039f26e374d60efc3e0"), looks := false }, kinds := [], alts := [], laidByText := true, laidKinds := [.data], laidTests := true, laidLooks := .later }
def PebbleUndoneUptoCardSaid : Prop := Claim7.holds Tryd.pinned (.plain (OpenSpec.upto pebbleUndoneSpec)) pebbleUndoneUptoCard

/-- THE SECOND FORM's CARD OF 'wagonwaylaw25.PebbleApart'. -/
def pebbleApartUptoCard : Claim7 := { stood := { row := pebbleApartUptoRow, standIns := [], harness := (true, "9e40ad7a5cb37565901db7919502e8a4fee5110b4fab4039f26e374d60efc3e0"), looks := false }, kinds := [], alts := [], laidByText := true, laidKinds := [.data], laidTests := true, laidLooks := .later }
def PebbleApartUptoCardSaid : Prop := Claim7.holds Tryd.pinned (.plain (OpenSpec.upto pebbleApartSpec)) pebbleApartUptoCard

/-- THE SECOND FORM's CARD OF 'wagonwaylaw25.PebbleSafe'. -/
def pebbleSafeUptoCard : Claim7 := { stood := { row := pebbleSafeUptoRow, standIns := [], harness := (true, "9e40ad7a5cb37565901db7919502e8a4fee5110b4fab4039f26e374d60efc3e0"), looks := false }, kinds := [], alts := [], laidByText := true, laidKinds := [.data], laidTests := true, laidLooks := .later }
def PebbleSafeUptoCardSaid : Prop := Claim7.holds Tryd.pinned (.plain (OpenSpec.upto pebbleSafeSpec)) pebbleSafeUptoCard
end Rows
end Go.Proofs.YtbaohngkapmhlaaDoor
