/-
  NARROWER THAN 'FOR EVERY INPUT', by the rows' own cells (each row's printed sentence says how): SectionsCheckSpec: laid · SectionsAddSpec: laid · SectionsKeptSpec: laid · SeatsTime: laid · SeatsOthers: laid · SectionsAdded: laid · SectionsOrder: laid · SectionsSeats: laid · SectionsMeet: laid · SeatsCapacity: laid · SeatsFree: laid · SeatsBack: laid · SeatsReserved: laid.
  DERIVED. THE GIVEN ROWS OF THIS SEAT. 13 by the template 'for every input the law returns true; each argument reads behind the call as it read before'; 0 by the template 'total and deterministic' (their statements: YteonpdnncodkaaaDoorTotals.lean).
  GIVEN WITH THE SEED: the statements are not yours to turn. If you find one false, say at which input.
  Laid BY PROGRAM, IN A SANDBOX (cutbox-rows.mjs): the forced cells as the released guide's own fill.sh prints them over the translation 11023c9aac19c5a0… (all of the seat's roots in one cut). By AI agents, Wed Nov 11 2026. No macro, syntax, notation, axiom, sorry.
-/
import Derived.Test.YteonpdnncodkaaaDoorChecked
import GoSem.Claim
import GoSem.ClaimJoined
import GoSem.ClaimMapViews
import Derived.JoinedTies
import Derived.KernelRfl
namespace Go.Proofs.YteonpdnncodkaaaDoor
/- THE CELL 'sum', in the pinned program and in every row, IS THE sha256 OF THE DUMP (.gsa) THAT YteonpdnncodkaaaDoorProg.lean LOADS. Nothing in Lean hashes anything: it is a label: what it is worth is what the hold of that sum in a sandbox is worth. -/
noncomputable def Tryd.pinned : Pinned := { name := "yteonpdnncodkaaadoor", sum := "11023c9aac19c5a00ace90947ac73eec08ce301d822b69413cae2d02a985b9c9", checked := Tryd.checked }
namespace Rows
def none {H : Type} : Left H := { results := [], args := [] }

/- WHAT THE LISTED PACKAGE-LEVEL VARIABLES READ AS WHEN THE CALL BEGINS. Each datum BY PROGRAM (the guide's laid-datum.mjs) off the statement by which the dump's own 'gosem.cut.vars' lays the variable. In a bare row this is a premise. The card (YteonpdnncodkaaaDoorCards.lean) ties it to the program's text. -/
def laid_errors_errorType {H : Type} : DataW H := .iface "internal/reflectlite.rtype" (.agg [.ptr (.lit (.string [101, 114, 114, 111, 114]))])

/-- 'sizarlaw23.SectionsCheckSpec': WHATEVER THE INPUT: true; the input reads as it did. -/
def sectionsCheckSpecSpec : ChangeSpec := { name := "sectionsCheckSpec", fn := fun _ => fun
  | [d1, d2] => { results := [.lit (.bool true)], args := [d1, d2] }
  | _ => none }
def sectionsCheckSpecRow : OpenClaim := { program := "yteonpdnncodkaaadoor", sum := "11023c9aac19c5a00ace90947ac73eec08ce301d822b69413cae2d02a985b9c9", func := "sizar/sizarlaw23.SectionsCheckSpec", spec := "sectionsCheckSpec", inPlace := ["internal/reflectlite.ValueOf", "(internal/reflectlite.Value).Type", "(internal/reflectlite.Value).IsNil", "internal/reflectlite.TypeOf", "(internal/reflectlite.Value).Elem", "(internal/reflectlite.Value).Set", "slices.overlaps[sizar/api.Section]"], unfollowed := true, recurses := true, named := ["errors.errorType"], apart := false, laid := [("errors.errorType", laid_errors_errorType)] }
def SectionsCheckSpecSaid : Prop := sectionsCheckSpecRow.holds Tryd.pinned (OpenSpec.ofChange sectionsCheckSpecSpec)

/-- ITS FALSE NEIGHBOUR: 'it returns false'. Refute it at one input. -/
def sectionsCheckSpecWrong : ChangeSpec := { name := "sectionsCheckSpec", fn := fun _ => fun
  | [d1, d2] => { results := [.lit (.bool false)], args := [d1, d2] }
  | _ => none }
def SectionsCheckSpecWrongFalsely : Prop := sectionsCheckSpecRow.holds Tryd.pinned (OpenSpec.ofChange sectionsCheckSpecWrong)

/-- 'sizarlaw23.SectionsAddSpec': WHATEVER THE INPUT: true; the input reads as it did. -/
def sectionsAddSpecSpec : ChangeSpec := { name := "sectionsAddSpec", fn := fun _ => fun
  | [d1, d2, d3] => { results := [.lit (.bool true)], args := [d1, d2, d3] }
  | _ => none }
def sectionsAddSpecRow : OpenClaim := { program := "yteonpdnncodkaaadoor", sum := "11023c9aac19c5a00ace90947ac73eec08ce301d822b69413cae2d02a985b9c9", func := "sizar/sizarlaw23.SectionsAddSpec", spec := "sectionsAddSpec", inPlace := ["internal/reflectlite.ValueOf", "(internal/reflectlite.Value).Type", "(internal/reflectlite.Value).IsNil", "internal/reflectlite.TypeOf", "(internal/reflectlite.Value).Elem", "(internal/reflectlite.Value).Set", "slices.overlaps[sizar/api.Section]"], unfollowed := true, recurses := true, named := ["errors.errorType"], apart := false, laid := [("errors.errorType", laid_errors_errorType)] }
def SectionsAddSpecSaid : Prop := sectionsAddSpecRow.holds Tryd.pinned (OpenSpec.ofChange sectionsAddSpecSpec)

/-- ITS FALSE NEIGHBOUR: 'it returns false'. Refute it at one input. -/
def sectionsAddSpecWrong : ChangeSpec := { name := "sectionsAddSpec", fn := fun _ => fun
  | [d1, d2, d3] => { results := [.lit (.bool false)], args := [d1, d2, d3] }
  | _ => none }
def SectionsAddSpecWrongFalsely : Prop := sectionsAddSpecRow.holds Tryd.pinned (OpenSpec.ofChange sectionsAddSpecWrong)

/-- 'sizarlaw23.SectionsKeptSpec': WHATEVER THE INPUT: true; the input reads as it did. -/
def sectionsKeptSpecSpec : ChangeSpec := { name := "sectionsKeptSpec", fn := fun _ => fun
  | [d1, d2, d3] => { results := [.lit (.bool true)], args := [d1, d2, d3] }
  | _ => none }
def sectionsKeptSpecRow : OpenClaim := { program := "yteonpdnncodkaaadoor", sum := "11023c9aac19c5a00ace90947ac73eec08ce301d822b69413cae2d02a985b9c9", func := "sizar/sizarlaw23.SectionsKeptSpec", spec := "sectionsKeptSpec", inPlace := ["internal/reflectlite.ValueOf", "(internal/reflectlite.Value).Type", "(internal/reflectlite.Value).IsNil", "internal/reflectlite.TypeOf", "(internal/reflectlite.Value).Elem", "(internal/reflectlite.Value).Set", "slices.overlaps[sizar/api.Section]"], unfollowed := true, recurses := true, named := ["errors.errorType"], apart := false, laid := [("errors.errorType", laid_errors_errorType)] }
def SectionsKeptSpecSaid : Prop := sectionsKeptSpecRow.holds Tryd.pinned (OpenSpec.ofChange sectionsKeptSpecSpec)

/-- ITS FALSE NEIGHBOUR: 'it returns false'. Refute it at one input. -/
def sectionsKeptSpecWrong : ChangeSpec := { name := "sectionsKeptSpec", fn := fun _ => fun
  | [d1, d2, d3] => { results := [.lit (.bool false)], args := [d1, d2, d3] }
  | _ => none }
def SectionsKeptSpecWrongFalsely : Prop := sectionsKeptSpecRow.holds Tryd.pinned (OpenSpec.ofChange sectionsKeptSpecWrong)

/-- 'sizarlaw25.SeatsTime': WHATEVER THE INPUT: true; the input reads as it did. -/
def seatsTimeSpec : ChangeSpec := { name := "seatsTime", fn := fun _ => fun
  | [d1, d2, d3, d4, d5, d6] => { results := [.lit (.bool true)], args := [d1, d2, d3, d4, d5, d6] }
  | _ => none }
def seatsTimeRow : OpenClaim := { program := "yteonpdnncodkaaadoor", sum := "11023c9aac19c5a00ace90947ac73eec08ce301d822b69413cae2d02a985b9c9", func := "sizar/sizarlaw25.SeatsTime", spec := "seatsTime", inPlace := ["internal/reflectlite.ValueOf", "(internal/reflectlite.Value).Type", "(internal/reflectlite.Value).IsNil", "internal/reflectlite.TypeOf", "(internal/reflectlite.Value).Elem", "(internal/reflectlite.Value).Set", "slices.overlaps[sizar/api.Seat]"], unfollowed := true, recurses := true, named := ["errors.errorType"], apart := false, laid := [("errors.errorType", laid_errors_errorType)] }
def SeatsTimeSaid : Prop := seatsTimeRow.holds Tryd.pinned (OpenSpec.ofChange seatsTimeSpec)

/-- ITS FALSE NEIGHBOUR: 'it returns false'. Refute it at one input. -/
def seatsTimeWrong : ChangeSpec := { name := "seatsTime", fn := fun _ => fun
  | [d1, d2, d3, d4, d5, d6] => { results := [.lit (.bool false)], args := [d1, d2, d3, d4, d5, d6] }
  | _ => none }
def SeatsTimeWrongFalsely : Prop := seatsTimeRow.holds Tryd.pinned (OpenSpec.ofChange seatsTimeWrong)

/-- 'sizarlaw25.SeatsOthers': WHATEVER THE INPUT: true; the input reads as it did. -/
def seatsOthersSpec : ChangeSpec := { name := "seatsOthers", fn := fun _ => fun
  | [d1, d2, d3, d4, d5] => { results := [.lit (.bool true)], args := [d1, d2, d3, d4, d5] }
  | _ => none }
def seatsOthersRow : OpenClaim := { program := "yteonpdnncodkaaadoor", sum := "11023c9aac19c5a00ace90947ac73eec08ce301d822b69413cae2d02a985b9c9", func := "sizar/sizarlaw25.SeatsOthers", spec := "seatsOthers", inPlace := ["internal/reflectlite.ValueOf", "(internal/reflectlite.Value).Type", "(internal/reflectlite.Value).IsNil", "internal/reflectlite.TypeOf", "(internal/reflectlite.Value).Elem", "(internal/reflectlite.Value).Set", "slices.overlaps[sizar/api.Seat]"], unfollowed := true, recurses := true, named := ["errors.errorType"], apart := false, laid := [("errors.errorType", laid_errors_errorType)] }
def SeatsOthersSaid : Prop := seatsOthersRow.holds Tryd.pinned (OpenSpec.ofChange seatsOthersSpec)

/-- ITS FALSE NEIGHBOUR: 'it returns false'. Refute it at one input. -/
def seatsOthersWrong : ChangeSpec := { name := "seatsOthers", fn := fun _ => fun
  | [d1, d2, d3, d4, d5] => { results := [.lit (.bool false)], args := [d1, d2, d3, d4, d5] }
  | _ => none }
def SeatsOthersWrongFalsely : Prop := seatsOthersRow.holds Tryd.pinned (OpenSpec.ofChange seatsOthersWrong)

/-- 'sizarlaw23.SectionsAdded': WHATEVER THE INPUT: true; the input reads as it did. -/
def sectionsAddedSpec : ChangeSpec := { name := "sectionsAdded", fn := fun _ => fun
  | [d1, d2] => { results := [.lit (.bool true)], args := [d1, d2] }
  | _ => none }
def sectionsAddedRow : OpenClaim := { program := "yteonpdnncodkaaadoor", sum := "11023c9aac19c5a00ace90947ac73eec08ce301d822b69413cae2d02a985b9c9", func := "sizar/sizarlaw23.SectionsAdded", spec := "sectionsAdded", inPlace := ["internal/reflectlite.ValueOf", "(internal/reflectlite.Value).Type", "(internal/reflectlite.Value).IsNil", "internal/reflectlite.TypeOf", "(internal/reflectlite.Value).Elem", "(internal/reflectlite.Value).Set", "slices.overlaps[sizar/api.Section]"], unfollowed := true, recurses := true, named := ["errors.errorType"], apart := false, laid := [("errors.errorType", laid_errors_errorType)] }
def SectionsAddedSaid : Prop := sectionsAddedRow.holds Tryd.pinned (OpenSpec.ofChange sectionsAddedSpec)

/-- ITS FALSE NEIGHBOUR: 'it returns false'. Refute it at one input. -/
def sectionsAddedWrong : ChangeSpec := { name := "sectionsAdded", fn := fun _ => fun
  | [d1, d2] => { results := [.lit (.bool false)], args := [d1, d2] }
  | _ => none }
def SectionsAddedWrongFalsely : Prop := sectionsAddedRow.holds Tryd.pinned (OpenSpec.ofChange sectionsAddedWrong)

/-- 'sizarlaw23.SectionsOrder': WHATEVER THE INPUT: true; the input reads as it did. -/
def sectionsOrderSpec : ChangeSpec := { name := "sectionsOrder", fn := fun _ => fun
  | [d1, d2] => { results := [.lit (.bool true)], args := [d1, d2] }
  | _ => none }
def sectionsOrderRow : OpenClaim := { program := "yteonpdnncodkaaadoor", sum := "11023c9aac19c5a00ace90947ac73eec08ce301d822b69413cae2d02a985b9c9", func := "sizar/sizarlaw23.SectionsOrder", spec := "sectionsOrder", inPlace := ["internal/reflectlite.ValueOf", "(internal/reflectlite.Value).Type", "(internal/reflectlite.Value).IsNil", "internal/reflectlite.TypeOf", "(internal/reflectlite.Value).Elem", "(internal/reflectlite.Value).Set", "slices.overlaps[sizar/api.Section]"], unfollowed := true, recurses := true, named := ["errors.errorType"], apart := false, laid := [("errors.errorType", laid_errors_errorType)] }
def SectionsOrderSaid : Prop := sectionsOrderRow.holds Tryd.pinned (OpenSpec.ofChange sectionsOrderSpec)

/-- ITS FALSE NEIGHBOUR: 'it returns false'. Refute it at one input. -/
def sectionsOrderWrong : ChangeSpec := { name := "sectionsOrder", fn := fun _ => fun
  | [d1, d2] => { results := [.lit (.bool false)], args := [d1, d2] }
  | _ => none }
def SectionsOrderWrongFalsely : Prop := sectionsOrderRow.holds Tryd.pinned (OpenSpec.ofChange sectionsOrderWrong)

/-- 'sizarlaw23.SectionsSeats': WHATEVER THE INPUT: true; the input reads as it did. -/
def sectionsSeatsSpec : ChangeSpec := { name := "sectionsSeats", fn := fun _ => fun
  | [d1, d2, d3] => { results := [.lit (.bool true)], args := [d1, d2, d3] }
  | _ => none }
def sectionsSeatsRow : OpenClaim := { program := "yteonpdnncodkaaadoor", sum := "11023c9aac19c5a00ace90947ac73eec08ce301d822b69413cae2d02a985b9c9", func := "sizar/sizarlaw23.SectionsSeats", spec := "sectionsSeats", inPlace := ["internal/reflectlite.ValueOf", "(internal/reflectlite.Value).Type", "(internal/reflectlite.Value).IsNil", "internal/reflectlite.TypeOf", "(internal/reflectlite.Value).Elem", "(internal/reflectlite.Value).Set", "slices.overlaps[sizar/api.Section]"], unfollowed := true, recurses := true, named := ["errors.errorType"], apart := false, laid := [("errors.errorType", laid_errors_errorType)] }
def SectionsSeatsSaid : Prop := sectionsSeatsRow.holds Tryd.pinned (OpenSpec.ofChange sectionsSeatsSpec)

/-- ITS FALSE NEIGHBOUR: 'it returns false'. Refute it at one input. -/
def sectionsSeatsWrong : ChangeSpec := { name := "sectionsSeats", fn := fun _ => fun
  | [d1, d2, d3] => { results := [.lit (.bool false)], args := [d1, d2, d3] }
  | _ => none }
def SectionsSeatsWrongFalsely : Prop := sectionsSeatsRow.holds Tryd.pinned (OpenSpec.ofChange sectionsSeatsWrong)

/-- 'sizarlaw23.SectionsMeet': WHATEVER THE INPUT: true; the input reads as it did. -/
def sectionsMeetSpec : ChangeSpec := { name := "sectionsMeet", fn := fun _ => fun
  | [d] => { results := [.lit (.bool true)], args := [d] }
  | _ => none }
def sectionsMeetRow : OpenClaim := { program := "yteonpdnncodkaaadoor", sum := "11023c9aac19c5a00ace90947ac73eec08ce301d822b69413cae2d02a985b9c9", func := "sizar/sizarlaw23.SectionsMeet", spec := "sectionsMeet", inPlace := ["internal/reflectlite.ValueOf", "(internal/reflectlite.Value).Type", "(internal/reflectlite.Value).IsNil", "internal/reflectlite.TypeOf", "(internal/reflectlite.Value).Elem", "(internal/reflectlite.Value).Set", "slices.overlaps[sizar/api.Section]"], unfollowed := true, recurses := true, named := ["errors.errorType"], apart := false, laid := [("errors.errorType", laid_errors_errorType)] }
def SectionsMeetSaid : Prop := sectionsMeetRow.holds Tryd.pinned (OpenSpec.ofChange sectionsMeetSpec)

/-- ITS FALSE NEIGHBOUR: 'it returns false'. Refute it at one input. -/
def sectionsMeetWrong : ChangeSpec := { name := "sectionsMeet", fn := fun _ => fun
  | [d] => { results := [.lit (.bool false)], args := [d] }
  | _ => none }
def SectionsMeetWrongFalsely : Prop := sectionsMeetRow.holds Tryd.pinned (OpenSpec.ofChange sectionsMeetWrong)

/-- 'sizarlaw25.SeatsCapacity': WHATEVER THE INPUT: true; the input reads as it did. -/
def seatsCapacitySpec : ChangeSpec := { name := "seatsCapacity", fn := fun _ => fun
  | [d1, d2] => { results := [.lit (.bool true)], args := [d1, d2] }
  | _ => none }
def seatsCapacityRow : OpenClaim := { program := "yteonpdnncodkaaadoor", sum := "11023c9aac19c5a00ace90947ac73eec08ce301d822b69413cae2d02a985b9c9", func := "sizar/sizarlaw25.SeatsCapacity", spec := "seatsCapacity", inPlace := ["internal/reflectlite.ValueOf", "(internal/reflectlite.Value).Type", "(internal/reflectlite.Value).IsNil", "internal/reflectlite.TypeOf", "(internal/reflectlite.Value).Elem", "(internal/reflectlite.Value).Set", "slices.overlaps[sizar/api.Seat]"], unfollowed := true, recurses := true, named := ["errors.errorType"], apart := false, laid := [("errors.errorType", laid_errors_errorType)] }
def SeatsCapacitySaid : Prop := seatsCapacityRow.holds Tryd.pinned (OpenSpec.ofChange seatsCapacitySpec)

/-- ITS FALSE NEIGHBOUR: 'it returns false'. Refute it at one input. -/
def seatsCapacityWrong : ChangeSpec := { name := "seatsCapacity", fn := fun _ => fun
  | [d1, d2] => { results := [.lit (.bool false)], args := [d1, d2] }
  | _ => none }
def SeatsCapacityWrongFalsely : Prop := seatsCapacityRow.holds Tryd.pinned (OpenSpec.ofChange seatsCapacityWrong)

/-- 'sizarlaw25.SeatsFree': WHATEVER THE INPUT: true; the input reads as it did. -/
def seatsFreeSpec : ChangeSpec := { name := "seatsFree", fn := fun _ => fun
  | [d1, d2, d3, d4, d5] => { results := [.lit (.bool true)], args := [d1, d2, d3, d4, d5] }
  | _ => none }
def seatsFreeRow : OpenClaim := { program := "yteonpdnncodkaaadoor", sum := "11023c9aac19c5a00ace90947ac73eec08ce301d822b69413cae2d02a985b9c9", func := "sizar/sizarlaw25.SeatsFree", spec := "seatsFree", inPlace := ["internal/reflectlite.ValueOf", "(internal/reflectlite.Value).Type", "(internal/reflectlite.Value).IsNil", "internal/reflectlite.TypeOf", "(internal/reflectlite.Value).Elem", "(internal/reflectlite.Value).Set", "slices.overlaps[sizar/api.Seat]"], unfollowed := true, recurses := true, named := ["errors.errorType"], apart := false, laid := [("errors.errorType", laid_errors_errorType)] }
def SeatsFreeSaid : Prop := seatsFreeRow.holds Tryd.pinned (OpenSpec.ofChange seatsFreeSpec)

/-- ITS FALSE NEIGHBOUR: 'it returns false'. Refute it at one input. -/
def seatsFreeWrong : ChangeSpec := { name := "seatsFree", fn := fun _ => fun
  | [d1, d2, d3, d4, d5] => { results := [.lit (.bool false)], args := [d1, d2, d3, d4, d5] }
  | _ => none }
def SeatsFreeWrongFalsely : Prop := seatsFreeRow.holds Tryd.pinned (OpenSpec.ofChange seatsFreeWrong)

/-- 'sizarlaw25.SeatsBack': WHATEVER THE INPUT: true; the input reads as it did. -/
def seatsBackSpec : ChangeSpec := { name := "seatsBack", fn := fun _ => fun
  | [d1, d2, d3, d4, d5] => { results := [.lit (.bool true)], args := [d1, d2, d3, d4, d5] }
  | _ => none }
def seatsBackRow : OpenClaim := { program := "yteonpdnncodkaaadoor", sum := "11023c9aac19c5a00ace90947ac73eec08ce301d822b69413cae2d02a985b9c9", func := "sizar/sizarlaw25.SeatsBack", spec := "seatsBack", inPlace := ["internal/reflectlite.ValueOf", "(internal/reflectlite.Value).Type", "(internal/reflectlite.Value).IsNil", "internal/reflectlite.TypeOf", "(internal/reflectlite.Value).Elem", "(internal/reflectlite.Value).Set", "slices.overlaps[sizar/api.Seat]"], unfollowed := true, recurses := true, named := ["errors.errorType"], apart := false, laid := [("errors.errorType", laid_errors_errorType)] }
def SeatsBackSaid : Prop := seatsBackRow.holds Tryd.pinned (OpenSpec.ofChange seatsBackSpec)

/-- ITS FALSE NEIGHBOUR: 'it returns false'. Refute it at one input. -/
def seatsBackWrong : ChangeSpec := { name := "seatsBack", fn := fun _ => fun
  | [d1, d2, d3, d4, d5] => { results := [.lit (.bool false)], args := [d1, d2, d3, d4, d5] }
  | _ => none }
def SeatsBackWrongFalsely : Prop := seatsBackRow.holds Tryd.pinned (OpenSpec.ofChange seatsBackWrong)

/-- 'sizarlaw25.SeatsReserved': WHATEVER THE INPUT: true; the input reads as it did. -/
def seatsReservedSpec : ChangeSpec := { name := "seatsReserved", fn := fun _ => fun
  | [d1, d2, d3, d4, d5] => { results := [.lit (.bool true)], args := [d1, d2, d3, d4, d5] }
  | _ => none }
def seatsReservedRow : OpenClaim := { program := "yteonpdnncodkaaadoor", sum := "11023c9aac19c5a00ace90947ac73eec08ce301d822b69413cae2d02a985b9c9", func := "sizar/sizarlaw25.SeatsReserved", spec := "seatsReserved", inPlace := ["internal/reflectlite.ValueOf", "(internal/reflectlite.Value).Type", "(internal/reflectlite.Value).IsNil", "internal/reflectlite.TypeOf", "(internal/reflectlite.Value).Elem", "(internal/reflectlite.Value).Set", "slices.overlaps[sizar/api.Seat]"], unfollowed := true, recurses := true, named := ["errors.errorType"], apart := false, laid := [("errors.errorType", laid_errors_errorType)] }
def SeatsReservedSaid : Prop := seatsReservedRow.holds Tryd.pinned (OpenSpec.ofChange seatsReservedSpec)

/-- ITS FALSE NEIGHBOUR: 'it returns false'. Refute it at one input. -/
def seatsReservedWrong : ChangeSpec := { name := "seatsReserved", fn := fun _ => fun
  | [d1, d2, d3, d4, d5] => { results := [.lit (.bool false)], args := [d1, d2, d3, d4, d5] }
  | _ => none }
def SeatsReservedWrongFalsely : Prop := seatsReservedRow.holds Tryd.pinned (OpenSpec.ofChange seatsReservedWrong)

/- THE SECOND FORM. 'bulk': how many values and letters a reading holds, each counted each time it is reached (what is shared counts as often as it is met; a slice's spare places count too). A statement '..UptoSaid' is the law's where the arguments, and the package variables that the reading takes, are together of bulk at most 1048576: NARROWER than '..Said'. Prove '..Said' where nothing that the law and all that it calls make is longer than what came in: it says more and counts as full. Else prove '..UptoSaid'. A law counts once. -/
mutual
def uptoBulk {H : Type} : DataW H → Nat
  | .lit (.string bytes) => bytes.length + 1
  | .lit _ => 1
  | .nil => 1
  | .ptr d => uptoBulk d + 1
  | .slice elems spare => uptoBulkAll elems + uptoBulkAll spare + 1
  | .agg parts => uptoBulkAll parts + 1
  | .iface _ d => uptoBulk d + 1
  | .map entries => uptoBulkEntries entries + 1
  | .held _ => 1
def uptoBulkAll {H : Type} : List (DataW H) → Nat
  | [] => 0
  | d :: r => uptoBulk d + uptoBulkAll r
def uptoBulkEntries {H : Type} : List (Lit × DataW H) → Nat
  | [] => 0
  | x :: r => uptoBulkEntry x + uptoBulkEntries r
def uptoBulkEntry {H : Type} : Lit × DataW H → Nat
  | (.string bytes, d) => bytes.length + uptoBulk d + 1
  | (_, d) => uptoBulk d + 1
 end
def uptoSmall : (H : Type) → List (DataW H) → Bool := fun _ ds => decide (uptoBulkAll ds ≤ 1048576)
def OpenSpec.upto (s : _root_.Go.ChangeSpec) : _root_.Go.OpenSpec := { _root_.Go.OpenSpec.ofChange s with cond := some uptoSmall }

/-- 'sizarlaw23.SectionsCheckSpec', WHERE WHAT IT READS IS OF BULK AT MOST 1048576: true; the input reads as it did. -/
def sectionsCheckSpecUptoRow : OpenClaim := { program := "yteonpdnncodkaaadoor", sum := "11023c9aac19c5a00ace90947ac73eec08ce301d822b69413cae2d02a985b9c9", func := "sizar/sizarlaw23.SectionsCheckSpec", spec := "sectionsCheckSpec", inPlace := ["internal/reflectlite.ValueOf", "(internal/reflectlite.Value).Type", "(internal/reflectlite.Value).IsNil", "internal/reflectlite.TypeOf", "(internal/reflectlite.Value).Elem", "(internal/reflectlite.Value).Set", "slices.overlaps[sizar/api.Section]"], unfollowed := true, recurses := true, named := ["errors.errorType"], apart := false, laid := [("errors.errorType", laid_errors_errorType)], narrowed := true }
def SectionsCheckSpecUptoSaid : Prop := sectionsCheckSpecUptoRow.holds Tryd.pinned (OpenSpec.upto sectionsCheckSpecSpec)

/-- 'sizarlaw23.SectionsAddSpec', WHERE WHAT IT READS IS OF BULK AT MOST 1048576: true; the input reads as it did. -/
def sectionsAddSpecUptoRow : OpenClaim := { program := "yteonpdnncodkaaadoor", sum := "11023c9aac19c5a00ace90947ac73eec08ce301d822b69413cae2d02a985b9c9", func := "sizar/sizarlaw23.SectionsAddSpec", spec := "sectionsAddSpec", inPlace := ["internal/reflectlite.ValueOf", "(internal/reflectlite.Value).Type", "(internal/reflectlite.Value).IsNil", "internal/reflectlite.TypeOf", "(internal/reflectlite.Value).Elem", "(internal/reflectlite.Value).Set", "slices.overlaps[sizar/api.Section]"], unfollowed := true, recurses := true, named := ["errors.errorType"], apart := false, laid := [("errors.errorType", laid_errors_errorType)], narrowed := true }
def SectionsAddSpecUptoSaid : Prop := sectionsAddSpecUptoRow.holds Tryd.pinned (OpenSpec.upto sectionsAddSpecSpec)

/-- 'sizarlaw23.SectionsKeptSpec', WHERE WHAT IT READS IS OF BULK AT MOST 1048576: true; the input reads as it did. -/
def sectionsKeptSpecUptoRow : OpenClaim := { program := "yteonpdnncodkaaadoor", sum := "11023c9aac19c5a00ace90947ac73eec08ce301d822b69413cae2d02a985b9c9", func := "sizar/sizarlaw23.SectionsKeptSpec", spec := "sectionsKeptSpec", inPlace := ["internal/reflectlite.ValueOf", "(internal/reflectlite.Value).Type", "(internal/reflectlite.Value).IsNil", "internal/reflectlite.TypeOf", "(internal/reflectlite.Value).Elem", "(internal/reflectlite.Value).Set", "slices.overlaps[sizar/api.Section]"], unfollowed := true, recurses := true, named := ["errors.errorType"], apart := false, laid := [("errors.errorType", laid_errors_errorType)], narrowed := true }
def SectionsKeptSpecUptoSaid : Prop := sectionsKeptSpecUptoRow.holds Tryd.pinned (OpenSpec.upto sectionsKeptSpecSpec)

/-- 'sizarlaw25.SeatsTime', WHERE WHAT IT READS IS OF BULK AT MOST 1048576: true; the input reads as it did. -/
def seatsTimeUptoRow : OpenClaim := { program := "yteonpdnncodkaaadoor", sum := "11023c9aac19c5a00ace90947ac73eec08ce301d822b69413cae2d02a985b9c9", func := "sizar/sizarlaw25.SeatsTime", spec := "seatsTime", inPlace := ["internal/reflectlite.ValueOf", "(internal/reflectlite.Value).Type", "(internal/reflectlite.Value).IsNil", "internal/reflectlite.TypeOf", "(internal/reflectlite.Value).Elem", "(internal/reflectlite.Value).Set", "slices.overlaps[sizar/api.Seat]"], unfollowed := true, recurses := true, named := ["errors.errorType"], apart := false, laid := [("errors.errorType", laid_errors_errorType)], narrowed := true }
def SeatsTimeUptoSaid : Prop := seatsTimeUptoRow.holds Tryd.pinned (OpenSpec.upto seatsTimeSpec)

/-- 'sizarlaw25.SeatsOthers', WHERE WHAT IT READS IS OF BULK AT MOST 1048576: true; the input reads as it did. -/
def seatsOthersUptoRow : OpenClaim := { program := "yteonpdnncodkaaadoor", sum := "11023c9aac19c5a00ace90947ac73eec08ce301d822b69413cae2d02a985b9c9", func := "sizar/sizarlaw25.SeatsOthers", spec := "seatsOthers", inPlace := ["internal/reflectlite.ValueOf", "(internal/reflectlite.Value).Type", "(internal/reflectlite.Value).IsNil", "internal/reflectlite.TypeOf", "(internal/reflectlite.Value).Elem", "(internal/reflectlite.Value).Set", "slices.overlaps[sizar/api.Seat]"], unfollowed := true, recurses := true, named := ["errors.errorType"], apart := false, laid := [("errors.errorType", laid_errors_errorType)], narrowed := true }
def SeatsOthersUptoSaid : Prop := seatsOthersUptoRow.holds Tryd.pinned (OpenSpec.upto seatsOthersSpec)

/-- 'sizarlaw23.SectionsAdded', WHERE WHAT IT READS IS OF BULK AT MOST 1048576: true; the input reads as it did. -/
def sectionsAddedUptoRow : OpenClaim := { program := "yteonpdnncodkaaadoor", sum := "11023c9aac19c5a00ace90947ac73eec08ce301d822b69413cae2d02a985b9c9", func := "sizar/sizarlaw23.SectionsAdded", spec := "sectionsAdded", inPlace := ["internal/reflectlite.ValueOf", "(internal/reflectlite.Value).Type", "(internal/reflectlite.Value).IsNil", "internal/reflectlite.TypeOf", "(internal/reflectlite.Value).Elem", "(internal/reflectlite.Value).Set", "slices.overlaps[sizar/api.Section]"], unfollowed := true, recurses := true, named := ["errors.errorType"], apart := false, laid := [("errors.errorType", laid_errors_errorType)], narrowed := true }
def SectionsAddedUptoSaid : Prop := sectionsAddedUptoRow.holds Tryd.pinned (OpenSpec.upto sectionsAddedSpec)

/-- 'sizarlaw23.SectionsOrder', WHERE WHAT IT READS IS OF BULK AT MOST 1048576: true; the input reads as it did. -/
def sectionsOrderUptoRow : OpenClaim := { program := "yteonpdnncodkaaadoor", sum := "11023c9aac19c5a00ace90947ac73eec08ce301d822b69413cae2d02a985b9c9", func := "sizar/sizarlaw23.SectionsOrder", spec := "sectionsOrder", inPlace := ["internal/reflectlite.ValueOf", "(internal/reflectlite.Value).Type", "(internal/reflectlite.Value).IsNil", "internal/reflectlite.TypeOf", "(internal/reflectlite.Value).Elem", "(internal/reflectlite.Value).Set", "slices.overlaps[sizar/api.Section]"], unfollowed := true, recurses := true, named := ["errors.errorType"], apart := false, laid := [("errors.errorType", laid_errors_errorType)], narrowed := true }
def SectionsOrderUptoSaid : Prop := sectionsOrderUptoRow.holds Tryd.pinned (OpenSpec.upto sectionsOrderSpec)

/-- 'sizarlaw23.SectionsSeats', WHERE WHAT IT READS IS OF BULK AT MOST 1048576: true; the input reads as it did. -/
def sectionsSeatsUptoRow : OpenClaim := { program := "yteonpdnncodkaaadoor", sum := "11023c9aac19c5a00ace90947ac73eec08ce301d822b69413cae2d02a985b9c9", func := "sizar/sizarlaw23.SectionsSeats", spec := "sectionsSeats", inPlace := ["internal/reflectlite.ValueOf", "(internal/reflectlite.Value).Type", "(internal/reflectlite.Value).IsNil", "internal/reflectlite.TypeOf", "(internal/reflectlite.Value).Elem", "(internal/reflectlite.Value).Set", "slices.overlaps[sizar/api.Section]"], unfollowed := true, recurses := true, named := ["errors.errorType"], apart := false, laid := [("errors.errorType", laid_errors_errorType)], narrowed := true }
def SectionsSeatsUptoSaid : Prop := sectionsSeatsUptoRow.holds Tryd.pinned (OpenSpec.upto sectionsSeatsSpec)

/-- 'sizarlaw23.SectionsMeet', WHERE WHAT IT READS IS OF BULK AT MOST 1048576: true; the input reads as it did. -/
def sectionsMeetUptoRow : OpenClaim := { program := "yteonpdnncodkaaadoor", sum := "11023c9aac19c5a00ace90947ac73eec08ce301d822b69413cae2d02a985b9c9", func := "sizar/sizarlaw23.SectionsMeet", spec := "sectionsMeet", inPlace := ["internal/reflectlite.ValueOf", "(internal/reflectlite.Value).Type", "(internal/reflectlite.Value).IsNil", "internal/reflectlite.TypeOf", "(internal/reflectlite.Value).Elem", "(internal/reflectlite.Value).Set", "slices.overlaps[sizar/api.Section]"], unfollowed := true, recurses := true, named := ["errors.errorType"], apart := false, laid := [("errors.errorType", laid_errors_errorType)], narrowed := true }
def SectionsMeetUptoSaid : Prop := sectionsMeetUptoRow.holds Tryd.pinned (OpenSpec.upto sectionsMeetSpec)

/-- 'sizarlaw25.SeatsCapacity', WHERE WHAT IT READS IS OF BULK AT MOST 1048576: true; the input reads as it did. -/
def seatsCapacityUptoRow : OpenClaim := { program := "yteonpdnncodkaaadoor", sum := "11023c9aac19c5a00ace90947ac73eec08ce301d822b69413cae2d02a985b9c9", func := "sizar/sizarlaw25.SeatsCapacity", spec := "seatsCapacity", inPlace := ["internal/reflectlite.ValueOf", "(internal/reflectlite.Value).Type", "(internal/reflectlite.Value).IsNil", "internal/reflectlite.TypeOf", "(internal/reflectlite.Value).Elem", "(internal/reflectlite.Value).Set", "slices.overlaps[sizar/api.Seat]"], unfollowed := true, recurses := true, named := ["errors.errorType"], apart := false, laid := [("errors.errorType", laid_errors_errorType)], narrowed := true }
def SeatsCapacityUptoSaid : Prop := seatsCapacityUptoRow.holds Tryd.pinned (OpenSpec.upto seatsCapacitySpec)

/-- 'sizarlaw25.SeatsFree', WHERE WHAT IT READS IS OF BULK AT MOST 1048576: true; the input reads as it did. -/
def seatsFreeUptoRow : OpenClaim := { program := "yteonpdnncodkaaadoor", sum := "11023c9aac19c5a00ace90947ac73eec08ce301d822b69413cae2d02a985b9c9", func := "sizar/sizarlaw25.SeatsFree", spec := "seatsFree", inPlace := ["internal/reflectlite.ValueOf", "(internal/reflectlite.Value).Type", "(internal/reflectlite.Value).IsNil", "internal/reflectlite.TypeOf", "(internal/reflectlite.Value).Elem", "(internal/reflectlite.Value).Set", "slices.overlaps[sizar/api.Seat]"], unfollowed := true, recurses := true, named := ["errors.errorType"], apart := false, laid := [("errors.errorType", laid_errors_errorType)], narrowed := true }
def SeatsFreeUptoSaid : Prop := seatsFreeUptoRow.holds Tryd.pinned (OpenSpec.upto seatsFreeSpec)

/-- 'sizarlaw25.SeatsBack', WHERE WHAT IT READS IS OF BULK AT MOST 1048576: true; the input reads as it did. -/
def seatsBackUptoRow : OpenClaim := { program := "yteonpdnncodkaaadoor", sum := "11023c9aac19c5a00ace90947ac73eec08ce301d822b69413cae2d02a985b9c9", func := "sizar/sizarlaw25.SeatsBack", spec := "seatsBack", inPlace := ["internal/reflectlite.ValueOf", "(internal/reflectlite.Value).Type", "(internal/reflectlite.Value).IsNil", "internal/reflectlite.TypeOf", "(internal/reflectlite.Value).Elem", "(internal/reflectlite.Value).Set", "slices.overlaps[sizar/api.Seat]"], unfollowed := true, recurses := true, named := ["errors.errorType"], apart := false, laid := [("errors.errorType", laid_errors_errorType)], narrowed := true }
def SeatsBackUptoSaid : Prop := seatsBackUptoRow.holds Tryd.pinned (OpenSpec.upto seatsBackSpec)

/-- 'sizarlaw25.SeatsReserved', WHERE WHAT IT READS IS OF BULK AT MOST 1048576: true; the input reads as it did. -/
def seatsReservedUptoRow : OpenClaim := { program := "yteonpdnncodkaaadoor", sum := "11023c9aac19c5a00ace90947ac73eec08ce301d822b69413cae2d02a985b9c9", func := "sizar/sizarlaw25.SeatsReserved", spec := "seatsReserved", inPlace := ["internal/reflectlite.ValueOf", "(internal/reflectlite.Value).Type", "(internal/reflectlite.Value).IsNil", "internal/reflectlite.TypeOf", "(internal/reflectlite.Value).Elem", "(internal/reflectlite.Value).Set", "slices.overlaps[sizar/api.Seat]"], unfollowed := true, recurses := true, named := ["errors.errorType"], apart := false, laid := [("errors.errorType", laid_errors_errorType)], narrowed := true }
def SeatsReservedUptoSaid : Prop := seatsReservedUptoRow.holds Tryd.pinned (OpenSpec.upto seatsReservedSpec)

end Rows
end Go.Proofs.YteonpdnncodkaaaDoor
