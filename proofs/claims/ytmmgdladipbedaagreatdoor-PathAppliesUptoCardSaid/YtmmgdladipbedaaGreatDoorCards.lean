/-
  DERIVED. GIVEN WITH THE SEED: THE CARDS: each row of YtmmgdladipbedaaGreatDoorRows.lean that lists a variable, with what it lists TIED to the program's text (the seventh form; the later family's looks); each row that meets fmt, with fmt's text TOLD by the authors' own Lean function (tested against real Go, not proved from fmt's source: count such statements apart). THE CARD IS WHAT COUNTS. Prove the row's statement (the work); the ties are given (YtmmgdladipbedaaGreatDoorTie.lean); close each card by the builder's one call (the guide's Derived/Test/ToyasCard.lean, 'card_holds'). Laid BY PROGRAM, IN A SANDBOX (cutbox-door.mjs). By AI agents, Wed Nov 11 2026. No macro, syntax, notation, axiom, sorry.
-/
import Derived.Test.YtmmgdladipbedaaGreatDoorRows
import GoSem.ClaimSeven
namespace Go.Proofs.YtmmgdladipbedaaGreatDoor
namespace Rows

/-- THE TIED CARD OF 'seneschallaw19.PathChecks'. -/
def pathChecksCard : Claim7 := { stood := { row := pathChecksRow, standIns := [], harness := (true, "76b7dfec1b05563319dc4ea53678dfcac817d9e9f1fdce75b1ee0d60f60c3105"), looks := true }, kinds := [], alts := [], laidByText := true, laidKinds := [.data, .data, .data, .data, .sentinel, .sentinel, .pinned], laidTests := true, laidLooks := .later }
def PathChecksCardSaid : Prop := Claim7.holds Tryz.pinned (.plain (OpenSpec.ofChange pathChecksSpec)) pathChecksCard

/-- THE TIED CARD OF 'seneschallaw19.PathMatches'. -/
def pathMatchesCard : Claim7 := { stood := { row := pathMatchesRow, standIns := [], harness := (true, "76b7dfec1b05563319dc4ea53678dfcac817d9e9f1fdce75b1ee0d60f60c3105"), looks := true }, kinds := [], alts := [], laidByText := true, laidKinds := [.data, .data, .data, .data, .sentinel, .sentinel, .pinned], laidTests := true, laidLooks := .later }
def PathMatchesCardSaid : Prop := Claim7.holds Tryz.pinned (.plain (OpenSpec.ofChange pathMatchesSpec)) pathMatchesCard

/-- THE TIED CARD OF 'seneschallaw19.PathBack'. -/
def pathBackCard : Claim7 := { stood := { row := pathBackRow, standIns := [], harness := (true, "76b7dfec1b05563319dc4ea53678dfcac817d9e9f1fdce75b1ee0d60f60c3105"), looks := true }, kinds := [], alts := [], laidByText := true, laidKinds := [.data, .data, .data, .data, .sentinel, .sentinel, .pinned], laidTests := true, laidLooks := .later }
def PathBackCardSaid : Prop := Claim7.holds Tryz.pinned (.plain (OpenSpec.ofChange pathBackSpec)) pathBackCard

/-- THE TIED CARD OF 'seneschallaw19.PathLogic'. -/
def pathLogicCard : Claim7 := { stood := { row := pathLogicRow, standIns := [], harness := (true, "76b7dfec1b05563319dc4ea53678dfcac817d9e9f1fdce75b1ee0d60f60c3105"), looks := true }, kinds := [], alts := [], laidByText := true, laidKinds := [.data, .data, .data, .data, .sentinel, .sentinel, .pinned], laidTests := true, laidLooks := .later }
def PathLogicCardSaid : Prop := Claim7.holds Tryz.pinned (.plain (OpenSpec.ofChange pathLogicSpec)) pathLogicCard

/-- THE TIED CARD OF 'seneschallaw19.PathApplies'. -/
def pathAppliesCard : Claim7 := { stood := { row := pathAppliesRow, standIns := [], harness := (true, "76b7dfec1b05563319dc4ea53678dfcac817d9e9f1fdce75b1ee0d60f60c3105"), looks := true }, kinds := [], alts := [], laidByText := true, laidKinds := [.data, .data, .data, .data, .sentinel, .sentinel, .pinned], laidTests := true, laidLooks := .later }
def PathAppliesCardSaid : Prop := Claim7.holds Tryz.pinned (.plain (OpenSpec.ofChange pathAppliesSpec)) pathAppliesCard

/-- THE TIED CARD OF 'seneschallaw19.PathKeeps'. -/
def pathKeepsCard : Claim7 := { stood := { row := pathKeepsRow, standIns := [], harness := (true, "76b7dfec1b05563319dc4ea53678dfcac817d9e9f1fdce75b1ee0d60f60c3105"), looks := true }, kinds := [], alts := [], laidByText := true, laidKinds := [.data, .data, .data, .data, .sentinel, .sentinel, .pinned], laidTests := true, laidLooks := .later }
def PathKeepsCardSaid : Prop := Claim7.holds Tryz.pinned (.plain (OpenSpec.ofChange pathKeepsSpec)) pathKeepsCard

/-- THE TIED CARD OF 'seneschallaw19.PathTwice'. -/
def pathTwiceCard : Claim7 := { stood := { row := pathTwiceRow, standIns := [], harness := (true, "76b7dfec1b05563319dc4ea53678dfcac817d9e9f1fdce75b1ee0d60f60c3105"), looks := true }, kinds := [], alts := [], laidByText := true, laidKinds := [.data, .data, .data, .data, .sentinel, .sentinel, .pinned], laidTests := true, laidLooks := .later }
def PathTwiceCardSaid : Prop := Claim7.holds Tryz.pinned (.plain (OpenSpec.ofChange pathTwiceSpec)) pathTwiceCard

/-- THE TIED CARD OF 'seneschallaw19.PathJson'. -/
def pathJsonCard : Claim7 := { stood := { row := pathJsonRow, standIns := [], harness := (true, "76b7dfec1b05563319dc4ea53678dfcac817d9e9f1fdce75b1ee0d60f60c3105"), looks := true }, kinds := [], alts := [], laidByText := true, laidKinds := [.data, .data, .data, .data, .sentinel, .sentinel, .pinned], laidTests := true, laidLooks := .later }
def PathJsonCardSaid : Prop := Claim7.holds Tryz.pinned (.plain (OpenSpec.ofChange pathJsonSpec)) pathJsonCard

/-- THE TIED CARD OF 'seneschallaw19.PathReads'. -/
def pathReadsCard : Claim7 := { stood := { row := pathReadsRow, standIns := [], harness := (true, "76b7dfec1b05563319dc4ea53678dfcac817d9e9f1fdce75b1ee0d60f60c3105"), looks := true }, kinds := [], alts := [], laidByText := true, laidKinds := [.data, .data, .data, .data, .sentinel, .sentinel, .pinned], laidTests := true, laidLooks := .later }
def PathReadsCardSaid : Prop := Claim7.holds Tryz.pinned (.plain (OpenSpec.ofChange pathReadsSpec)) pathReadsCard

/-- THE TIED CARD OF 'seneschallaw19.PathEdits'. -/
def pathEditsCard : Claim7 := { stood := { row := pathEditsRow, standIns := [], harness := (true, "76b7dfec1b05563319dc4ea53678dfcac817d9e9f1fdce75b1ee0d60f60c3105"), looks := true }, kinds := [], alts := [], laidByText := true, laidKinds := [.data, .data, .data, .data, .sentinel, .sentinel, .pinned], laidTests := true, laidLooks := .later }
def PathEditsCardSaid : Prop := Claim7.holds Tryz.pinned (.plain (OpenSpec.ofChange pathEditsSpec)) pathEditsCard

/-- THE SECOND FORM's CARD OF 'seneschallaw19.PathChecks'. -/
def pathChecksUptoCard : Claim7 := { stood := { row := pathChecksUptoRow, standIns := [], harness := (true, "76b7dfec1b05563319dc4ea53678dfcac817d9e9f1fdce75b1ee0d60f60c3105"), looks := true }, kinds := [], alts := [], laidByText := true, laidKinds := [.data, .data, .data, .data, .sentinel, .sentinel, .pinned], laidTests := true, laidLooks := .later }
def PathChecksUptoCardSaid : Prop := Claim7.holds Tryz.pinned (.plain (OpenSpec.upto pathChecksSpec)) pathChecksUptoCard

/-- THE SECOND FORM's CARD OF 'seneschallaw19.PathMatches'. -/
def pathMatchesUptoCard : Claim7 := { stood := { row := pathMatchesUptoRow, standIns := [], harness := (true, "76b7dfec1b05563319dc4ea53678dfcac817d9e9f1fdce75b1ee0d60f60c3105"), looks := true }, kinds := [], alts := [], laidByText := true, laidKinds := [.data, .data, .data, .data, .sentinel, .sentinel, .pinned], laidTests := true, laidLooks := .later }
def PathMatchesUptoCardSaid : Prop := Claim7.holds Tryz.pinned (.plain (OpenSpec.upto pathMatchesSpec)) pathMatchesUptoCard

/-- THE SECOND FORM's CARD OF 'seneschallaw19.PathBack'. -/
def pathBackUptoCard : Claim7 := { stood := { row := pathBackUptoRow, standIns := [], harness := (true, "76b7dfec1b05563319dc4ea53678dfcac817d9e9f1fdce75b1ee0d60f60c3105"), looks := true }, kinds := [], alts := [], laidByText := true, laidKinds := [.data, .data, .data, .data, .sentinel, .sentinel, .pinned], laidTests := true, laidLooks := .later }
def PathBackUptoCardSaid : Prop := Claim7.holds Tryz.pinned (.plain (OpenSpec.upto pathBackSpec)) pathBackUptoCard

/-- THE SECOND FORM's CARD OF 'seneschallaw19.PathLogic'. -/
def pathLogicUptoCard : Claim7 := { stood := { row := pathLogicUptoRow, standIns := [], harness := (true, "76b7dfec1b05563319dc4ea53678dfcac817d9e9f1fdce75b1ee0d60f60c3105"), looks := true }, kinds := [], alts := [], laidByText := true, laidKinds := [.data, .data, .data, .data, .sentinel, .sentinel, .pinned], laidTests := true, laidLooks := .later }
def PathLogicUptoCardSaid : Prop := Claim7.holds Tryz.pinned (.plain (OpenSpec.upto pathLogicSpec)) pathLogicUptoCard

/-- THE SECOND FORM's CARD OF 'seneschallaw19.PathApplies'. -/
def pathAppliesUptoCard : Claim7 := { stood := { row := pathAppliesUptoRow, standIns := [], harness := (true, "76b7dfec1b05563319dc4ea53678dfcac817d9e9f1fdce75b1ee0d60f60c3105"), looks := true }, kinds := [], alts := [], laidByText := true, laidKinds := [.data, .data, .data, .data, .sentinel, .sentinel, .pinned], laidTests := true, laidLooks := .later }
def PathAppliesUptoCardSaid : Prop := Claim7.holds Tryz.pinned (.plain (OpenSpec.upto pathAppliesSpec)) pathAppliesUptoCard

/-- THE SECOND FORM's CARD OF 'seneschallaw19.PathKeeps'. -/
def pathKeepsUptoCard : Claim7 := { stood := { row := pathKeepsUptoRow, standIns := [], harness := (true, "76b7dfec1b05563319dc4ea53678dfcac817d9e9f1fdce75b1ee0d60f60c3105"), looks := true }, kinds := [], alts := [], laidByText := true, laidKinds := [.data, .data, .data, .data, .sentinel, .sentinel, .pinned], laidTests := true, laidLooks := .later }
def PathKeepsUptoCardSaid : Prop := Claim7.holds Tryz.pinned (.plain (OpenSpec.upto pathKeepsSpec)) pathKeepsUptoCard

/-- THE SECOND FORM's CARD OF 'seneschallaw19.PathTwice'. -/
def pathTwiceUptoCard : Claim7 := { stood := { row := pathTwiceUptoRow, standIns := [], harness := (true, "76b7dfec1b05563319dc4ea53678dfcac817d9e9f1fdce75b1ee0d60f60c3105"), looks := true }, kinds := [], alts := [], laidByText := true, laidKinds := [.data, .data, .data, .data, .sentinel, .sentinel, .pinned], laidTests := true, laidLooks := .later }
def PathTwiceUptoCardSaid : Prop := Claim7.holds Tryz.pinned (.plain (OpenSpec.upto pathTwiceSpec)) pathTwiceUptoCard

/-- THE SECOND FORM's CARD OF 'seneschallaw19.PathJson'. -/
def pathJsonUptoCard : Claim7 := { stood := { row := pathJsonUptoRow, standIns := [], harness := (true, "76b7dfec1b05563319dc4ea53678dfcac817d9e9f1fdce75b1ee0d60f60c3105"), looks := true }, kinds := [], alts := [], laidByText := true, laidKinds := [.data, .data, .data, .data, .sentinel, .sentinel, .pinned], laidTests := true, laidLooks := .later }
def PathJsonUptoCardSaid : Prop := Claim7.holds Tryz.pinned (.plain (OpenSpec.upto pathJsonSpec)) pathJsonUptoCard

/-- THE SECOND FORM's CARD OF 'seneschallaw19.PathReads'. -/
def pathReadsUptoCard : Claim7 := { stood := { row := pathReadsUptoRow, standIns := [], harness := (true, "76b7dfec1b05563319dc4ea53678dfcac817d9e9f1fdce75b1ee0d60f60c3105"), looks := true }, kinds := [], alts := [], laidByText := true, laidKinds := [.data, .data, .data, .data, .sentinel, .sentinel, .pinned], laidTests := true, laidLooks := .later }
def PathReadsUptoCardSaid : Prop := Claim7.holds Tryz.pinned (.plain (OpenSpec.upto pathReadsSpec)) pathReadsUptoCard

/-- THE SECOND FORM's CARD OF 'seneschallaw19.PathEdits'. -/
def pathEditsUptoCard : Claim7 := { stood := { row := pathEditsUptoRow, standIns := [], harness := (true, "76b7dfec1b05563319dc4ea53678dfcac817d9e9f1fdce75b1ee0d60f60c3105"), looks := true }, kinds := [], alts := [], laidByText := true, laidKinds := [.data, .data, .data, .data, .sentinel, .sentinel, .pinned], laidTests := true, laidLooks := .later }
def PathEditsUptoCardSaid : Prop := Claim7.holds Tryz.pinned (.plain (OpenSpec.upto pathEditsSpec)) pathEditsUptoCard
end Rows
end Go.Proofs.YtmmgdladipbedaaGreatDoor
