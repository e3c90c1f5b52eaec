/-
  DERIVED. GIVEN WITH THE SEED: THE CARDS: each row of YtnjdmmdbminmoaaDoorRows.lean that lists a variable, with what it lists TIED to the program's text (the seventh form; the later family's looks); each row that meets fmt, with fmt's text TOLD by the authors' own Lean function (tested against real Go, not proved from fmt's source: count such statements apart). THE CARD IS WHAT COUNTS. Prove the row's statement (the work); the ties are given (YtnjdmmdbminmoaaDoorTie.lean); close each card by the builder's one call (the guide's Derived/Test/ToyasCard.lean, 'card_holds'). Laid BY PROGRAM, IN A SANDBOX (cutbox-door.mjs). By AI agents, Wed Nov 11 2026. No macro, syntax, notation, axiom, sorry.
-/
import Derived.Test.YtnjdmmdbminmoaaDoorRows
import GoSem.ClaimSeven
namespace Go.Proofs.YtnjdmmdbminmoaaDoor
namespace Rows

/-- THE TIED CARD OF 'laws.FnAcc'. -/
def fnAccCard : Claim7 := { stood := { row := fnAccRow, standIns := [], harness := (true, "1932061ca2c7e06216ab4de659d9a5359c1546320e1bf0a05f4c9452b3905bf9"), looks := true }, kinds := [], alts := [], laidByText := true, laidKinds := [.data, .data, .data, .data, .sentinel, .sentinel, .pinned], laidTests := true, laidLooks := .later }
def FnAccCardSaid : Prop := Claim7.holds Tryd.pinned (.plain (OpenSpec.ofChange fnAccSpec)) fnAccCard

/-- THE TIED CARD OF 'laws.FnExactTextEvent'. -/
def fnExactTextEventCard : Claim7 := { stood := { row := fnExactTextEventRow, standIns := [], harness := (true, "1932061ca2c7e06216ab4de659d9a5359c1546320e1bf0a05f4c9452b3905bf9"), looks := true }, kinds := [], alts := [], laidByText := true, laidKinds := [.data, .data, .data, .data, .sentinel, .sentinel, .pinned], laidTests := true, laidLooks := .later }
def FnExactTextEventCardSaid : Prop := Claim7.holds Tryd.pinned (.plain (OpenSpec.ofChange fnExactTextEventSpec)) fnExactTextEventCard

/-- THE TIED CARD OF 'laws.FnEvent'. -/
def fnEventCard : Claim7 := { stood := { row := fnEventRow, standIns := [], harness := (true, "1932061ca2c7e06216ab4de659d9a5359c1546320e1bf0a05f4c9452b3905bf9"), looks := true }, kinds := [], alts := [], laidByText := true, laidKinds := [.data, .data, .data, .data, .sentinel, .sentinel, .pinned], laidTests := true, laidLooks := .later }
def FnEventCardSaid : Prop := Claim7.holds Tryd.pinned (.plain (OpenSpec.ofChange fnEventSpec)) fnEventCard

/-- THE TIED CARD OF 'laws.FnExactNumText'. -/
def fnExactNumTextCard : Claim7 := { stood := { row := fnExactNumTextRow, standIns := [], harness := (true, "1932061ca2c7e06216ab4de659d9a5359c1546320e1bf0a05f4c9452b3905bf9"), looks := true }, kinds := [], alts := [], laidByText := true, laidKinds := [.data, .data, .data], laidTests := true, laidLooks := .later }
def FnExactNumTextCardSaid : Prop := Claim7.holds Tryd.pinned (.plain (OpenSpec.ofChange fnExactNumTextSpec)) fnExactNumTextCard

/-- THE TIED CARD OF 'laws.FnExactAccText'. -/
def fnExactAccTextCard : Claim7 := { stood := { row := fnExactAccTextRow, standIns := [], harness := (true, "1932061ca2c7e06216ab4de659d9a5359c1546320e1bf0a05f4c9452b3905bf9"), looks := true }, kinds := [], alts := [], laidByText := true, laidKinds := [.data, .data, .data, .data, .pinned], laidTests := true, laidLooks := .later }
def FnExactAccTextCardSaid : Prop := Claim7.holds Tryd.pinned (.plain (OpenSpec.ofChange fnExactAccTextSpec)) fnExactAccTextCard

/-- THE TIED CARD OF 'laws.FnExactTextNum'. -/
def fnExactTextNumCard : Claim7 := { stood := { row := fnExactTextNumRow, standIns := [], harness := (true, "1932061ca2c7e06216ab4de659d9a5359c1546320e1bf0a05f4c9452b3905bf9"), looks := true }, kinds := [], alts := [], laidByText := true, laidKinds := [.data, .data, .data, .sentinel, .sentinel], laidTests := true, laidLooks := .later }
def FnExactTextNumCardSaid : Prop := Claim7.holds Tryd.pinned (.plain (OpenSpec.ofChange fnExactTextNumSpec)) fnExactTextNumCard

/-- THE TIED CARD OF 'laws.FnNum'. -/
def fnNumCard : Claim7 := { stood := { row := fnNumRow, standIns := [], harness := (true, "1932061ca2c7e06216ab4de659d9a5359c1546320e1bf0a05f4c9452b3905bf9"), looks := true }, kinds := [], alts := [], laidByText := true, laidKinds := [.data, .data, .data, .sentinel, .sentinel], laidTests := true, laidLooks := .later }
def FnNumCardSaid : Prop := Claim7.holds Tryd.pinned (.plain (OpenSpec.ofChange fnNumSpec)) fnNumCard

/-- THE TIED CARD OF 'laws.FnExactEventText'. -/
def fnExactEventTextCard : Claim7 := { stood := { row := fnExactEventTextRow, standIns := [], harness := (true, "1932061ca2c7e06216ab4de659d9a5359c1546320e1bf0a05f4c9452b3905bf9"), looks := true }, kinds := [], alts := [], laidByText := true, laidKinds := [.data, .data, .data, .data, .pinned], laidTests := true, laidLooks := .later }
def FnExactEventTextCardSaid : Prop := Claim7.holds Tryd.pinned (.plain (OpenSpec.ofChange fnExactEventTextSpec)) fnExactEventTextCard

/-- THE TIED CARD OF 'laws.FnExactTextAcc'. -/
def fnExactTextAccCard : Claim7 := { stood := { row := fnExactTextAccRow, standIns := [], harness := (true, "1932061ca2c7e06216ab4de659d9a5359c1546320e1bf0a05f4c9452b3905bf9"), looks := true }, kinds := [], alts := [], laidByText := true, laidKinds := [.data, .data, .data, .data, .sentinel, .sentinel, .pinned], laidTests := true, laidLooks := .later }
def FnExactTextAccCardSaid : Prop := Claim7.holds Tryd.pinned (.plain (OpenSpec.ofChange fnExactTextAccSpec)) fnExactTextAccCard

/-- THE SECOND FORM's CARD OF 'laws.FnAcc'. -/
def fnAccUptoCard : Claim7 := { stood := { row := fnAccUptoRow, standIns := [], harness := (true, "1932061ca2c7e06216ab4de659d9a5359c1546320e1bf0a05f4c9452b3905bf9"), looks := true }, kinds := [], alts := [], laidByText := true, laidKinds := [.data, .data, .data, .data, .sentinel, .sentinel, .pinned], laidTests := true, laidLooks := .later }
def FnAccUptoCardSaid : Prop := Claim7.holds Tryd.pinned (.plain (OpenSpec.upto fnAccSpec)) fnAccUptoCard

/-- THE SECOND FORM's CARD OF 'laws.FnExactTextEvent'. -/
def fnExactTextEventUptoCard : Claim7 := { stood := { row := fnExactTextEventUptoRow, standIns := [], harness := (true, "1932061ca2c7e06216ab4de659d9a5359c1546320e1bf0a05f4c9452b3905bf9"), looks := true }, kinds := [], alts := [], laidByText := true, laidKinds := [.data, .data, .data, .data, .sentinel, .sentinel, .pinned], laidTests := true, laidLooks := .later }
def FnExactTextEventUptoCardSaid : Prop := Claim7.holds Tryd.pinned (.plain (OpenSpec.upto fnExactTextEventSpec)) fnExactTextEventUptoCard

/-- THE SECOND FORM's CARD OF 'laws.FnEvent'. -/
def fnEventUptoCard : Claim7 := { stood := { row := fnEventUptoRow, standIns := [], harness := (true, "1932061ca2c7e06216ab4de659d9a5359c1546320e1bf0a05f4c9452b3905bf9"), looks := true }, kinds := [], alts := [], laidByText := true, laidKinds := [.data, .data, .data, .data, .sentinel, .sentinel, .pinned], laidTests := true, laidLooks := .later }
def FnEventUptoCardSaid : Prop := Claim7.holds Tryd.pinned (.plain (OpenSpec.upto fnEventSpec)) fnEventUptoCard

/-- THE SECOND FORM's CARD OF 'laws.FnExactNumText'. -/
def fnExactNumTextUptoCard : Claim7 := { stood := { row := fnExactNumTextUptoRow, standIns := [], harness := (true, "1932061ca2c7e06216ab4de659d9a5359c1546320e1bf0a05f4c9452b3905bf9"), looks := true }, kinds := [], alts := [], laidByText := true, laidKinds := [.data, .data, .data], laidTests := true, laidLooks := .later }
def FnExactNumTextUptoCardSaid : Prop := Claim7.holds Tryd.pinned (.plain (OpenSpec.upto fnExactNumTextSpec)) fnExactNumTextUptoCard

/-- THE SECOND FORM's CARD OF 'laws.FnExactAccText'. -/
def fnExactAccTextUptoCard : Claim7 := { stood := { row := fnExactAccTextUptoRow, standIns := [], harness := (true, "1932061ca2c7e06216ab4de659d9a5359c1546320e1bf0a05f4c9452b3905bf9"), looks := true }, kinds := [], alts := [], laidByText := true, laidKinds := [.data, .data, .data, .data, .pinned], laidTests := true, laidLooks := .later }
def FnExactAccTextUptoCardSaid : Prop := Claim7.holds Tryd.pinned (.plain (OpenSpec.upto fnExactAccTextSpec)) fnExactAccTextUptoCard

/-- THE SECOND FORM's CARD OF 'laws.FnExactTextNum'. -/
def fnExactTextNumUptoCard : Claim7 := { stood := { row := fnExactTextNumUptoRow, standIns := [], harness := (true, "1932061ca2c7e06216ab4de659d9a5359c1546320e1bf0a05f4c9452b3905bf9"), looks := true }, kinds := [], alts := [], laidByText := true, laidKinds := [.data, .data, .data, .sentinel, .sentinel], laidTests := true, laidLooks := .later }
def FnExactTextNumUptoCardSaid : Prop := Claim7.holds Tryd.pinned (.plain (OpenSpec.upto fnExactTextNumSpec)) fnExactTextNumUptoCard

/-- THE SECOND FORM's CARD OF 'laws.FnNum'. -/
def fnNumUptoCard : Claim7 := { stood := { row := fnNumUptoRow, standIns := [], harness := (true, "1932061ca2c7e06216ab4de659d9a5359c1546320e1bf0a05f4c9452b3905bf9"), looks := true }, kinds := [], alts := [], laidByText := true, laidKinds := [.data, .data, .data, .sentinel, .sentinel], laidTests := true, laidLooks := .later }
def FnNumUptoCardSaid : Prop := Claim7.holds Tryd.pinned (.plain (OpenSpec.upto fnNumSpec)) fnNumUptoCard

/-- THE SECOND FORM's CARD OF 'laws.FnExactEventText'. -/
def fnExactEventTextUptoCard : Claim7 := { stood := { row := fnExactEventTextUptoRow, standIns := [], harness := (true, "1932061ca2c7e06216ab4de659d9a5359c1546320e1bf0a05f4c9452b3905bf9"), looks := true }, kinds := [], alts := [], laidByText := true, laidKinds := [.data, .data, .data, .data, .pinned], laidTests := true, laidLooks := .later }
def FnExactEventTextUptoCardSaid : Prop := Claim7.holds Tryd.pinned (.plain (OpenSpec.upto fnExactEventTextSpec)) fnExactEventTextUptoCard

/-- THE SECOND FORM's CARD OF 'laws.FnExactTextAcc'. -/
def fnExactTextAccUptoCard : Claim7 := { stood := { row := fnExactTextAccUptoRow, standIns := [], harness := (true, "1932061ca2c7e06216ab4de659d9a5359c1546320e1bf0a05f4c9452b3905bf9"), looks := true }, kinds := [], alts := [], laidByText := true, laidKinds := [.data, .data, .data, .data, .sentinel, .sentinel, .pinned], laidTests := true, laidLooks := .later }
def FnExactTextAccUptoCardSaid : Prop := Claim7.holds Tryd.pinned (.plain (OpenSpec.upto fnExactTextAccSpec)) fnExactTextAccUptoCard
end Rows
end Go.Proofs.YtnjdmmdbminmoaaDoor
