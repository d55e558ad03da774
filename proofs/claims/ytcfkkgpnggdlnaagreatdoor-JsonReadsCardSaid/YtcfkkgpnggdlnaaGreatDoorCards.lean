/-
  DERIVED. GIVEN WITH THE SEED: THE CARDS: each row of YtcfkkgpnggdlnaaGreatDoorRows.lean that lists a variable, with what it lists TIED to the program's text (the seventh form; the later family's looks); each row that meets fmt, with fmt's text TOLD by the authors' own Lean function (tested against real Go, not proved from fmt's source: count such statements apart). THE CARD IS WHAT COUNTS. Prove the row's statement (the work); the ties are given (YtcfkkgpnggdlnaaGreatDoorTie.lean); close each card by the builder's one call (the guide's Derived/Test/ToyasCard.lean, 'card_holds'). Laid BY PROGRAM, IN A SANDBOX (cutbox-door.mjs). By AI agents, Wed Nov 11 2026. No macro, syntax, notation, axiom, sorry.
-/
import Derived.Test.YtcfkkgpnggdlnaaGreatDoorRows
import GoSem.ClaimSeven
namespace Go.Proofs.YtcfkkgpnggdlnaaGreatDoor
namespace Rows

/-- THE TIED CARD OF 'seneschallaw02.JsonChecks'. -/
def jsonChecksCard : Claim7 := { stood := { row := jsonChecksRow, standIns := [], harness := (true, "986a5e32e438acffa2d97268d3bcc33cd02907cb87b6fc385697a55957f2b602"), looks := true }, kinds := [], alts := [], laidByText := true, laidKinds := [.data, .data, .data, .data, .sentinel, .sentinel, .pinned], laidTests := true, laidLooks := .later }
def JsonChecksCardSaid : Prop := Claim7.holds Tryz.pinned (.plain (OpenSpec.ofChange jsonChecksSpec)) jsonChecksCard

/-- THE TIED CARD OF 'seneschallaw02.JsonPrints'. -/
def jsonPrintsCard : Claim7 := { stood := { row := jsonPrintsRow, standIns := [], harness := (true, "986a5e32e438acffa2d97268d3bcc33cd02907cb87b6fc385697a55957f2b602"), looks := true }, kinds := [], alts := [], laidByText := true, laidKinds := [.data, .data, .data, .data, .sentinel, .sentinel, .pinned], laidTests := true, laidLooks := .later }
def JsonPrintsCardSaid : Prop := Claim7.holds Tryz.pinned (.plain (OpenSpec.ofChange jsonPrintsSpec)) jsonPrintsCard

/-- THE TIED CARD OF 'seneschallaw02.JsonFinds'. -/
def jsonFindsCard : Claim7 := { stood := { row := jsonFindsRow, standIns := [], harness := (true, "986a5e32e438acffa2d97268d3bcc33cd02907cb87b6fc385697a55957f2b602"), looks := true }, kinds := [], alts := [], laidByText := true, laidKinds := [.data, .data, .data, .data, .sentinel, .sentinel, .pinned], laidTests := true, laidLooks := .later }
def JsonFindsCardSaid : Prop := Claim7.holds Tryz.pinned (.plain (OpenSpec.ofChange jsonFindsSpec)) jsonFindsCard

/-- THE TIED CARD OF 'seneschallaw02.JsonBack'. -/
def jsonBackCard : Claim7 := { stood := { row := jsonBackRow, standIns := [], harness := (true, "986a5e32e438acffa2d97268d3bcc33cd02907cb87b6fc385697a55957f2b602"), looks := true }, kinds := [], alts := [], laidByText := true, laidKinds := [.data, .data, .data, .data, .sentinel, .sentinel, .pinned], laidTests := true, laidLooks := .later }
def JsonBackCardSaid : Prop := Claim7.holds Tryz.pinned (.plain (OpenSpec.ofChange jsonBackSpec)) jsonBackCard

/-- THE TIED CARD OF 'seneschallaw02.JsonSafe'. -/
def jsonSafeCard : Claim7 := { stood := { row := jsonSafeRow, standIns := [], harness := (true, "986a5e32e438acffa2d97268d3bcc33cd02907cb87b6fc385697a55957f2b602"), looks := true }, kinds := [], alts := [], laidByText := true, laidKinds := [.data, .data, .data, .data, .sentinel, .sentinel, .pinned], laidTests := true, laidLooks := .later }
def JsonSafeCardSaid : Prop := Claim7.holds Tryz.pinned (.plain (OpenSpec.ofChange jsonSafeSpec)) jsonSafeCard

/-- THE TIED CARD OF 'seneschallaw02.JsonBlanks'. -/
def jsonBlanksCard : Claim7 := { stood := { row := jsonBlanksRow, standIns := [], harness := (true, "986a5e32e438acffa2d97268d3bcc33cd02907cb87b6fc385697a55957f2b602"), looks := true }, kinds := [], alts := [], laidByText := true, laidKinds := [.data, .data, .data, .data, .sentinel, .sentinel, .pinned], laidTests := true, laidLooks := .later }
def JsonBlanksCardSaid : Prop := Claim7.holds Tryz.pinned (.plain (OpenSpec.ofChange jsonBlanksSpec)) jsonBlanksCard

/-- THE TIED CARD OF 'seneschallaw02.JsonReads'. -/
def jsonReadsCard : Claim7 := { stood := { row := jsonReadsRow, standIns := [], harness := (true, "986a5e32e438acffa2d97268d3bcc33cd02907cb87b6fc385697a55957f2b602"), looks := true }, kinds := [], alts := [], laidByText := true, laidKinds := [.data, .data, .data, .data, .sentinel, .sentinel, .pinned], laidTests := true, laidLooks := .later }
def JsonReadsCardSaid : Prop := Claim7.holds Tryz.pinned (.plain (OpenSpec.ofChange jsonReadsSpec)) jsonReadsCard

/-- THE SECOND FORM's CARD OF 'seneschallaw02.JsonChecks'. -/
def jsonChecksUptoCard : Claim7 := { stood := { row := jsonChecksUptoRow, standIns := [], harness := (true, "986a5e32e438acffa2d97268d3bcc33cd02907cb87b6fc385697a55957f2b602"), looks := true }, kinds := [], alts := [], laidByText := true, laidKinds := [.data, .data, .data, .data, .sentinel, .sentinel, .pinned], laidTests := true, laidLooks := .later }
def JsonChecksUptoCardSaid : Prop := Claim7.holds Tryz.pinned (.plain (OpenSpec.upto jsonChecksSpec)) jsonChecksUptoCard

/-- THE SECOND FORM's CARD OF 'seneschallaw02.JsonPrints'. -/
def jsonPrintsUptoCard : Claim7 := { stood := { row := jsonPrintsUptoRow, standIns := [], harness := (true, "986a5e32e438acffa2d97268d3bcc33cd02907cb87b6fc385697a55957f2b602"), looks := true }, kinds := [], alts := [], laidByText := true, laidKinds := [.data, .data, .data, .data, .sentinel, .sentinel, .pinned], laidTests := true, laidLooks := .later }
def JsonPrintsUptoCardSaid : Prop := Claim7.holds Tryz.pinned (.plain (OpenSpec.upto jsonPrintsSpec)) jsonPrintsUptoCard

/-- THE SECOND FORM's CARD OF 'seneschallaw02.JsonFinds'. -/
def jsonFindsUptoCard : Claim7 := { stood := { row := jsonFindsUptoRow, standIns := [], harness := (true, "986a5e32e438acffa2d97268d3bcc33cd02907cb87b6fc385697a55957f2b602"), looks := true }, kinds := [], alts := [], laidByText := true, laidKinds := [.data, .data, .data, .data, .sentinel, .sentinel, .pinned], laidTests := true, laidLooks := .later }
def JsonFindsUptoCardSaid : Prop := Claim7.holds Tryz.pinned (.plain (OpenSpec.upto jsonFindsSpec)) jsonFindsUptoCard

/-- THE SECOND FORM's CARD OF 'seneschallaw02.JsonBack'. -/
def jsonBackUptoCard : Claim7 := { stood := { row := jsonBackUptoRow, standIns := [], harness := (true, "986a5e32e438acffa2d97268d3bcc33cd02907cb87b6fc385697a55957f2b602"), looks := true }, kinds := [], alts := [], laidByText := true, laidKinds := [.data, .data, .data, .data, .sentinel, .sentinel, .pinned], laidTests := true, laidLooks := .later }
def JsonBackUptoCardSaid : Prop := Claim7.holds Tryz.pinned (.plain (OpenSpec.upto jsonBackSpec)) jsonBackUptoCard

/-- THE SECOND FORM's CARD OF 'seneschallaw02.JsonSafe'. -/
def jsonSafeUptoCard : Claim7 := { stood := { row := jsonSafeUptoRow, standIns := [], harness := (true, "986a5e32e438acffa2d97268d3bcc33cd02907cb87b6fc385697a55957f2b602"), looks := true }, kinds := [], alts := [], laidByText := true, laidKinds := [.data, .data, .data, .data, .sentinel, .sentinel, .pinned], laidTests := true, laidLooks := .later }
def JsonSafeUptoCardSaid : Prop := Claim7.holds Tryz.pinned (.plain (OpenSpec.upto jsonSafeSpec)) jsonSafeUptoCard

/-- THE SECOND FORM's CARD OF 'seneschallaw02.JsonBlanks'. -/
def jsonBlanksUptoCard : Claim7 := { stood := { row := jsonBlanksUptoRow, standIns := [], harness := (true, "986a5e32e438acffa2d97268d3bcc33cd02907cb87b6fc385697a55957f2b602"), looks := true }, kinds := [], alts := [], laidByText := true, laidKinds := [.data, .data, .data, .data, .sentinel, .sentinel, .pinned], laidTests := true, laidLooks := .later }
def JsonBlanksUptoCardSaid : Prop := Claim7.holds Tryz.pinned (.plain (OpenSpec.upto jsonBlanksSpec)) jsonBlanksUptoCard

/-- THE SECOND FORM's CARD OF 'seneschallaw02.JsonReads'. -/
def jsonReadsUptoCard : Claim7 := { stood := { row := jsonReadsUptoRow, standIns := [], harness := (true, "986a5e32e438acffa2d97268d3bcc33cd02907cb87b6fc385697a55957f2b602"), looks := true }, kinds := [], alts := [], laidByText := true, laidKinds := [.data, .data, .data, .data, .sentinel, .sentinel, .pinned], laidTests := true, laidLooks := .later }
def JsonReadsUptoCardSaid : Prop := Claim7.holds Tryz.pinned (.plain (OpenSpec.upto jsonReadsSpec)) jsonReadsUptoCard
end Rows
end Go.Proofs.YtcfkkgpnggdlnaaGreatDoor
