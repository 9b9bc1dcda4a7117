/-
  DERIVED. GIVEN WITH THE SEED: THE CARDS: each row of YteonpdnncodkaaaGreatDoorRows.lean that lists a variable, with what it lists TIED to the program's text (the seventh form; the later family's looks); each row that meets fmt, with fmt's text TOLD by the authors' own Lean function (tested against real Go, not proved from fmt's source: count such statements apart). THE CARD IS WHAT COUNTS. Prove the row's statement (the work); the ties are given (YteonpdnncodkaaaGreatDoorTie.lean); close each card by the builder's one call (the guide's Derived/Test/ToyasCard.lean, 'card_holds'). Laid BY PROGRAM, IN A SANDBOX (cutbox-door.mjs). By AI agents, Wed Nov 11 2026. No macro, syntax, notation, axiom, sorry.
-/
import Derived.Test.YteonpdnncodkaaaGreatDoorRows
import GoSem.ClaimSeven
namespace Go.Proofs.YteonpdnncodkaaaGreatDoor
namespace Rows

/-- THE TIED CARD OF 'sizarlaw25.SeatsTakeSpec'. -/
def seatsTakeSpecCard : Claim7 := { stood := { row := seatsTakeSpecRow, standIns := [], harness := (true, "2a4f8d4041562faa533bc88f701dddaf260061bb508ab6fe8c7e3ba01cfc81ba"), looks := true }, kinds := [], alts := [], laidByText := true, laidKinds := [.handle], laidTests := true, laidLooks := .later }
def SeatsTakeSpecCardSaid : Prop := Claim7.holds Tryz.pinned (.plain (OpenSpec.ofChange seatsTakeSpecSpec)) seatsTakeSpecCard

/-- THE SECOND FORM's CARD OF 'sizarlaw25.SeatsTakeSpec'. -/
def seatsTakeSpecUptoCard : Claim7 := { stood := { row := seatsTakeSpecUptoRow, standIns := [], harness := (true, "2a4f8d4041562faa533bc88f701dddaf260061bb508ab6fe8c7e3ba01cfc81ba"), looks := true }, kinds := [], alts := [], laidByText := true, laidKinds := [.handle], laidTests := true, laidLooks := .later }
def SeatsTakeSpecUptoCardSaid : Prop := Claim7.holds Tryz.pinned (.plain (OpenSpec.upto seatsTakeSpecSpec)) seatsTakeSpecUptoCard
end Rows
end Go.Proofs.YteonpdnncodkaaaGreatDoor
