/-
  DERIVED. GIVEN WITH THE SEED: THE CARDS: each row of YteonpdnncodkaaaDoorRows.lean that lists a variable, with what it lists TIED to the program's text (the seventh form; the later family's looks); each row that meets fmt, with fmt's text TOLD by the authors' own Lean function (tested against real Go, not proved from fmt's source: count such statements apart). THE CARD IS WHAT COUNTS. Prove the row's statement (the work); the ties are given (YteonpdnncodkaaaDoorTie.lean); close each card by the builder's one call (the guide's Derived/Test/ToyasCard.lean, 'card_holds'). Laid BY PROGRAM, IN A SANDBOX (cutbox-door.mjs). By AI agents, Wed Nov 11 2026. No macro, syntax, notation, axiom, sorry.
-/
import Derived.Test.YteonpdnncodkaaaDoorRows
import GoSem.ClaimSeven
namespace Go.Proofs.YteonpdnncodkaaaDoor
namespace Rows

/-- THE TIED CARD OF 'sizarlaw23.SectionsCheckSpec'. -/
def sectionsCheckSpecCard : Claim7 := { stood := { row := sectionsCheckSpecRow, standIns := [], harness := (true, "69b0a945f3b6dd01ad238ee369f893a52cc6f8b464e3b4bf6a6d5ff4472c37ca"), looks := true }, kinds := [], alts := [], laidByText := true, laidKinds := [.handle], laidTests := true, laidLooks := .later }
def SectionsCheckSpecCardSaid : Prop := Claim7.holds Tryd.pinned (.plain (OpenSpec.ofChange sectionsCheckSpecSpec)) sectionsCheckSpecCard

/-- THE TIED CARD OF 'sizarlaw23.SectionsAddSpec'. -/
def sectionsAddSpecCard : Claim7 := { stood := { row := sectionsAddSpecRow, standIns := [], harness := (true, "69b0a945f3b6dd01ad238ee369f893a52cc6f8b464e3b4bf6a6d5ff4472c37ca"), looks := true }, kinds := [], alts := [], laidByText := true, laidKinds := [.handle], laidTests := true, laidLooks := .later }
def SectionsAddSpecCardSaid : Prop := Claim7.holds Tryd.pinned (.plain (OpenSpec.ofChange sectionsAddSpecSpec)) sectionsAddSpecCard

/-- THE TIED CARD OF 'sizarlaw23.SectionsKeptSpec'. -/
def sectionsKeptSpecCard : Claim7 := { stood := { row := sectionsKeptSpecRow, standIns := [], harness := (true, "69b0a945f3b6dd01ad238ee369f893a52cc6f8b464e3b4bf6a6d5ff4472c37ca"), looks := true }, kinds := [], alts := [], laidByText := true, laidKinds := [.handle], laidTests := true, laidLooks := .later }
def SectionsKeptSpecCardSaid : Prop := Claim7.holds Tryd.pinned (.plain (OpenSpec.ofChange sectionsKeptSpecSpec)) sectionsKeptSpecCard

/-- THE TIED CARD OF 'sizarlaw25.SeatsTime'. -/
def seatsTimeCard : Claim7 := { stood := { row := seatsTimeRow, standIns := [], harness := (true, "69b0a945f3b6dd01ad238ee369f893a52cc6f8b464e3b4bf6a6d5ff4472c37ca"), looks := true }, kinds := [], alts := [], laidByText := true, laidKinds := [.handle], laidTests := true, laidLooks := .later }
def SeatsTimeCardSaid : Prop := Claim7.holds Tryd.pinned (.plain (OpenSpec.ofChange seatsTimeSpec)) seatsTimeCard

/-- THE TIED CARD OF 'sizarlaw25.SeatsOthers'. -/
def seatsOthersCard : Claim7 := { stood := { row := seatsOthersRow, standIns := [], harness := (true, "69b0a945f3b6dd01ad238ee369f893a52cc6f8b464e3b4bf6a6d5ff4472c37ca"), looks := true }, kinds := [], alts := [], laidByText := true, laidKinds := [.handle], laidTests := true, laidLooks := .later }
def SeatsOthersCardSaid : Prop := Claim7.holds Tryd.pinned (.plain (OpenSpec.ofChange seatsOthersSpec)) seatsOthersCard

/-- THE TIED CARD OF 'sizarlaw23.SectionsAdded'. -/
def sectionsAddedCard : Claim7 := { stood := { row := sectionsAddedRow, standIns := [], harness := (true, "69b0a945f3b6dd01ad238ee369f893a52cc6f8b464e3b4bf6a6d5ff4472c37ca"), looks := true }, kinds := [], alts := [], laidByText := true, laidKinds := [.handle], laidTests := true, laidLooks := .later }
def SectionsAddedCardSaid : Prop := Claim7.holds Tryd.pinned (.plain (OpenSpec.ofChange sectionsAddedSpec)) sectionsAddedCard

/-- THE TIED CARD OF 'sizarlaw23.SectionsOrder'. -/
def sectionsOrderCard : Claim7 := { stood := { row := sectionsOrderRow, standIns := [], harness := (true, "69b0a945f3b6dd01ad238ee369f893a52cc6f8b464e3b4bf6a6d5ff4472c37ca"), looks := true }, kinds := [], alts := [], laidByText := true, laidKinds := [.handle], laidTests := true, laidLooks := .later }
def SectionsOrderCardSaid : Prop := Claim7.holds Tryd.pinned (.plain (OpenSpec.ofChange sectionsOrderSpec)) sectionsOrderCard

/-- THE TIED CARD OF 'sizarlaw23.SectionsSeats'. -/
def sectionsSeatsCard : Claim7 := { stood := { row := sectionsSeatsRow, standIns := [], harness := (true, "69b0a945f3b6dd01ad238ee369f893a52cc6f8b464e3b4bf6a6d5ff4472c37ca"), looks := true }, kinds := [], alts := [], laidByText := true, laidKinds := [.handle], laidTests := true, laidLooks := .later }
def SectionsSeatsCardSaid : Prop := Claim7.holds Tryd.pinned (.plain (OpenSpec.ofChange sectionsSeatsSpec)) sectionsSeatsCard

/-- THE TIED CARD OF 'sizarlaw23.SectionsMeet'. -/
def sectionsMeetCard : Claim7 := { stood := { row := sectionsMeetRow, standIns := [], harness := (true, "69b0a945f3b6dd01ad238ee369f893a52cc6f8b464e3b4bf6a6d5ff4472c37ca"), looks := true }, kinds := [], alts := [], laidByText := true, laidKinds := [.handle], laidTests := true, laidLooks := .later }
def SectionsMeetCardSaid : Prop := Claim7.holds Tryd.pinned (.plain (OpenSpec.ofChange sectionsMeetSpec)) sectionsMeetCard

/-- THE TIED CARD OF 'sizarlaw25.SeatsCapacity'. -/
def seatsCapacityCard : Claim7 := { stood := { row := seatsCapacityRow, standIns := [], harness := (true, "69b0a945f3b6dd01ad238ee369f893a52cc6f8b464e3b4bf6a6d5ff4472c37ca"), looks := true }, kinds := [], alts := [], laidByText := true, laidKinds := [.handle], laidTests := true, laidLooks := .later }
def SeatsCapacityCardSaid : Prop := Claim7.holds Tryd.pinned (.plain (OpenSpec.ofChange seatsCapacitySpec)) seatsCapacityCard

/-- THE TIED CARD OF 'sizarlaw25.SeatsFree'. -/
def seatsFreeCard : Claim7 := { stood := { row := seatsFreeRow, standIns := [], harness := (true, "69b0a945f3b6dd01ad238ee369f893a52cc6f8b464e3b4bf6a6d5ff4472c37ca"), looks := true }, kinds := [], alts := [], laidByText := true, laidKinds := [.handle], laidTests := true, laidLooks := .later }
def SeatsFreeCardSaid : Prop := Claim7.holds Tryd.pinned (.plain (OpenSpec.ofChange seatsFreeSpec)) seatsFreeCard

/-- THE TIED CARD OF 'sizarlaw25.SeatsBack'. -/
def seatsBackCard : Claim7 := { stood := { row := seatsBackRow, standIns := [], harness := (true, "69b0a945f3b6dd01ad238ee369f893a52cc6f8b464e3b4bf6a6d5ff4472c37ca"), looks := true }, kinds := [], alts := [], laidByText := true, laidKinds := [.handle], laidTests := true, laidLooks := .later }
def SeatsBackCardSaid : Prop := Claim7.holds Tryd.pinned (.plain (OpenSpec.ofChange seatsBackSpec)) seatsBackCard

/-- THE TIED CARD OF 'sizarlaw25.SeatsReserved'. -/
def seatsReservedCard : Claim7 := { stood := { row := seatsReservedRow, standIns := [], harness := (true, "69b0a945f3b6dd01ad238ee369f893a52cc6f8b464e3b4bf6a6d5ff4472c37ca"), looks := true }, kinds := [], alts := [], laidByText := true, laidKinds := [.handle], laidTests := true, laidLooks := .later }
def SeatsReservedCardSaid : Prop := Claim7.holds Tryd.pinned (.plain (OpenSpec.ofChange seatsReservedSpec)) seatsReservedCard

/-- THE SECOND FORM's CARD OF 'sizarlaw23.SectionsCheckSpec'. -/
def sectionsCheckSpecUptoCard : Claim7 := { stood := { row := sectionsCheckSpecUptoRow, standIns := [], harness := (true, "69b0a945f3b6dd01ad238ee369f893a52cc6f8b464e3b4bf6a6d5ff4472c37ca"), looks := true }, kinds := [], alts := [], laidByText := true, laidKinds := [.handle], laidTests := true, laidLooks := .later }
def SectionsCheckSpecUptoCardSaid : Prop := Claim7.holds Tryd.pinned (.plain (OpenSpec.upto sectionsCheckSpecSpec)) sectionsCheckSpecUptoCard

/-- THE SECOND FORM's CARD OF 'sizarlaw23.SectionsAddSpec'. -/
def sectionsAddSpecUptoCard : Claim7 := { stood := { row := sectionsAddSpecUptoRow, standIns := [], harness := (true, "69b0a945f3b6dd01ad238ee369f893a52cc6f8b464e3b4bf6a6d5ff4472c37ca"), looks := true }, kinds := [], alts := [], laidByText := true, laidKinds := [.handle], laidTests := true, laidLooks := .later }
def SectionsAddSpecUptoCardSaid : Prop := Claim7.holds Tryd.pinned (.plain (OpenSpec.upto sectionsAddSpecSpec)) sectionsAddSpecUptoCard

/-- THE SECOND FORM's CARD OF 'sizarlaw23.SectionsKeptSpec'. -/
def sectionsKeptSpecUptoCard : Claim7 := { stood := { row := sectionsKeptSpecUptoRow, standIns := [], harness := (true, "69b0a945f3b6dd01ad238ee369f893a52cc6f8b464e3b4bf6a6d5ff4472c37ca"), looks := true }, kinds := [], alts := [], laidByText := true, laidKinds := [.handle], laidTests := true, laidLooks := .later }
def SectionsKeptSpecUptoCardSaid : Prop := Claim7.holds Tryd.pinned (.plain (OpenSpec.upto sectionsKeptSpecSpec)) sectionsKeptSpecUptoCard

/-- THE SECOND FORM's CARD OF 'sizarlaw25.SeatsTime'. -/
def seatsTimeUptoCard : Claim7 := { stood := { row := seatsTimeUptoRow, standIns := [], harness := (true, "69b0a945f3b6dd01ad238ee369f893a52cc6f8b464e3b4bf6a6d5ff4472c37ca"), looks := true }, kinds := [], alts := [], laidByText := true, laidKinds := [.handle], laidTests := true, laidLooks := .later }
def SeatsTimeUptoCardSaid : Prop := Claim7.holds Tryd.pinned (.plain (OpenSpec.upto seatsTimeSpec)) seatsTimeUptoCard

/-- THE SECOND FORM's CARD OF 'sizarlaw25.SeatsOthers'. -/
def seatsOthersUptoCard : Claim7 := { stood := { row := seatsOthersUptoRow, standIns := [], harness := (true, "69b0a945f3b6dd01ad238ee369f893a52cc6f8b464e3b4bf6a6d5ff4472c37ca"), looks := true }, kinds := [], alts := [], laidByText := true, laidKinds := [.handle], laidTests := true, laidLooks := .later }
def SeatsOthersUptoCardSaid : Prop := Claim7.holds Tryd.pinned (.plain (OpenSpec.upto seatsOthersSpec)) seatsOthersUptoCard

/-- THE SECOND FORM's CARD OF 'sizarlaw23.SectionsAdded'. -/
def sectionsAddedUptoCard : Claim7 := { stood := { row := sectionsAddedUptoRow, standIns := [], harness := (true, "69b0a945f3b6dd01ad238ee369f893a52cc6f8b464e3b4bf6a6d5ff4472c37ca"), looks := true }, kinds := [], alts := [], laidByText := true, laidKinds := [.handle], laidTests := true, laidLooks := .later }
def SectionsAddedUptoCardSaid : Prop := Claim7.holds Tryd.pinned (.plain (OpenSpec.upto sectionsAddedSpec)) sectionsAddedUptoCard

/-- THE SECOND FORM's CARD OF 'sizarlaw23.SectionsOrder'. -/
def sectionsOrderUptoCard : Claim7 := { stood := { row := sectionsOrderUptoRow, standIns := [], harness := (true, "69b0a945f3b6dd01ad238ee369f893a52cc6f8b464e3b4bf6a6d5ff4472c37ca"), looks := true }, kinds := [], alts := [], laidByText := true, laidKinds := [.handle], laidTests := true, laidLooks := .later }
def SectionsOrderUptoCardSaid : Prop := Claim7.holds Tryd.pinned (.plain (OpenSpec.upto sectionsOrderSpec)) sectionsOrderUptoCard

/-- THE SECOND FORM's CARD OF 'sizarlaw23.SectionsSeats'. -/
def sectionsSeatsUptoCard : Claim7 := { stood := { row := sectionsSeatsUptoRow, standIns := [], harness := (true, "69b0a945f3b6dd01ad238ee369f893a52cc6f8b464e3b4bf6a6d5ff4472c37ca"), looks := true }, kinds := [], alts := [], laidByText := true, laidKinds := [.handle], laidTests := true, laidLooks := .later }
def SectionsSeatsUptoCardSaid : Prop := Claim7.holds Tryd.pinned (.plain (OpenSpec.upto sectionsSeatsSpec)) sectionsSeatsUptoCard

/-- THE SECOND FORM's CARD OF 'sizarlaw23.SectionsMeet'. -/
def sectionsMeetUptoCard : Claim7 := { stood := { row := sectionsMeetUptoRow, standIns := [], harness := (true, "69b0a945f3b6dd01ad238ee369f893a52cc6f8b464e3b4bf6a6d5ff4472c37ca"), looks := true }, kinds := [], alts := [], laidByText := true, laidKinds := [.handle], laidTests := true, laidLooks := .later }
def SectionsMeetUptoCardSaid : Prop := Claim7.holds Tryd.pinned (.plain (OpenSpec.upto sectionsMeetSpec)) sectionsMeetUptoCard

/-- THE SECOND FORM's CARD OF 'sizarlaw25.SeatsCapacity'. -/
def seatsCapacityUptoCard : Claim7 := { stood := { row := seatsCapacityUptoRow, standIns := [], harness := (true, "69b0a945f3b6dd01ad238ee369f893a52cc6f8b464e3b4bf6a6d5ff4472c37ca"), looks := true }, kinds := [], alts := [], laidByText := true, laidKinds := [.handle], laidTests := true, laidLooks := .later }
def SeatsCapacityUptoCardSaid : Prop := Claim7.holds Tryd.pinned (.plain (OpenSpec.upto seatsCapacitySpec)) seatsCapacityUptoCard

/-- THE SECOND FORM's CARD OF 'sizarlaw25.SeatsFree'. -/
def seatsFreeUptoCard : Claim7 := { stood := { row := seatsFreeUptoRow, standIns := [], harness := (true, "69b0a945f3b6dd01ad238ee369f893a52cc6f8b464e3b4bf6a6d5ff4472c37ca"), looks := true }, kinds := [], alts := [], laidByText := true, laidKinds := [.handle], laidTests := true, laidLooks := .later }
def SeatsFreeUptoCardSaid : Prop := Claim7.holds Tryd.pinned (.plain (OpenSpec.upto seatsFreeSpec)) seatsFreeUptoCard

/-- THE SECOND FORM's CARD OF 'sizarlaw25.SeatsBack'. -/
def seatsBackUptoCard : Claim7 := { stood := { row := seatsBackUptoRow, standIns := [], harness := (true, "69b0a945f3b6dd01ad238ee369f893a52cc6f8b464e3b4bf6a6d5ff4472c37ca"), looks := true }, kinds := [], alts := [], laidByText := true, laidKinds := [.handle], laidTests := true, laidLooks := .later }
def SeatsBackUptoCardSaid : Prop := Claim7.holds Tryd.pinned (.plain (OpenSpec.upto seatsBackSpec)) seatsBackUptoCard

/-- THE SECOND FORM's CARD OF 'sizarlaw25.SeatsReserved'. -/
def seatsReservedUptoCard : Claim7 := { stood := { row := seatsReservedUptoRow, standIns := [], harness := (true, "69b0a945f3b6dd01ad238ee369f893a52cc6f8b464e3b4bf6a6d5ff4472c37ca"), looks := true }, kinds := [], alts := [], laidByText := true, laidKinds := [.handle], laidTests := true, laidLooks := .later }
def SeatsReservedUptoCardSaid : Prop := Claim7.holds Tryd.pinned (.plain (OpenSpec.upto seatsReservedSpec)) seatsReservedUptoCard
end Rows
end Go.Proofs.YteonpdnncodkaaaDoor
