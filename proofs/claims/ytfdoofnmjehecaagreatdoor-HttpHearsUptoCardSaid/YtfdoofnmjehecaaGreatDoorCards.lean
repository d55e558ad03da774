/-
  DERIVED. GIVEN WITH THE SEED: THE CARDS: each row of YtfdoofnmjehecaaGreatDoorRows.lean that lists a variable, with what it lists TIED to the program's text (the seventh form; the later family's looks); each row that meets fmt, with fmt's text TOLD by the authors' own Lean function (tested against real Go, not proved from fmt's source: count such statements apart). THE CARD IS WHAT COUNTS. Prove the row's statement (the work); the ties are given (YtfdoofnmjehecaaGreatDoorTie.lean); close each card by the builder's one call (the guide's Derived/Test/ToyasCard.lean, 'card_holds'). Laid BY PROGRAM, IN A SANDBOX (cutbox-door.mjs). By AI agents, Wed Nov 11 2026. No macro, syntax, notation, axiom, sorry.
-/
import Derived.Test.YtfdoofnmjehecaaGreatDoorRows
import GoSem.ClaimSeven
namespace Go.Proofs.YtfdoofnmjehecaaGreatDoor
namespace Rows

/-- THE TIED CARD OF 'seneschallaw22.HttpReads'. -/
def httpReadsCard : Claim7 := { stood := { row := httpReadsRow, standIns := [], harness := (true, "bc81eb19e4f554f8384fa3bca87139c0af04db129f2d8a0c7d2b740d0e0bb8e7"), looks := true }, kinds := [], alts := [], laidByText := true, laidKinds := [.data, .data, .data, .data, .sentinel, .sentinel, .pinned], laidTests := true, laidLooks := .later }
def HttpReadsCardSaid : Prop := Claim7.holds Tryz.pinned (.plain (OpenSpec.ofChange httpReadsSpec)) httpReadsCard

/-- THE TIED CARD OF 'seneschallaw22.HttpPrints'. -/
def httpPrintsCard : Claim7 := { stood := { row := httpPrintsRow, standIns := [], harness := (true, "bc81eb19e4f554f8384fa3bca87139c0af04db129f2d8a0c7d2b740d0e0bb8e7"), looks := true }, kinds := [], alts := [], laidByText := true, laidKinds := [.data, .data, .data, .data, .sentinel, .sentinel, .pinned], laidTests := true, laidLooks := .later }
def HttpPrintsCardSaid : Prop := Claim7.holds Tryz.pinned (.plain (OpenSpec.ofChange httpPrintsSpec)) httpPrintsCard

/-- THE TIED CARD OF 'seneschallaw22.HttpReplies'. -/
def httpRepliesCard : Claim7 := { stood := { row := httpRepliesRow, standIns := [], harness := (true, "bc81eb19e4f554f8384fa3bca87139c0af04db129f2d8a0c7d2b740d0e0bb8e7"), looks := true }, kinds := [], alts := [], laidByText := true, laidKinds := [.data, .data, .data, .data, .sentinel, .sentinel, .pinned], laidTests := true, laidLooks := .later }
def HttpRepliesCardSaid : Prop := Claim7.holds Tryz.pinned (.plain (OpenSpec.ofChange httpRepliesSpec)) httpRepliesCard

/-- THE TIED CARD OF 'seneschallaw22.HttpPieces'. -/
def httpPiecesCard : Claim7 := { stood := { row := httpPiecesRow, standIns := [], harness := (true, "bc81eb19e4f554f8384fa3bca87139c0af04db129f2d8a0c7d2b740d0e0bb8e7"), looks := true }, kinds := [], alts := [], laidByText := true, laidKinds := [.data, .data, .data, .data, .sentinel, .sentinel, .pinned], laidTests := true, laidLooks := .later }
def HttpPiecesCardSaid : Prop := Claim7.holds Tryz.pinned (.plain (OpenSpec.ofChange httpPiecesSpec)) httpPiecesCard

/-- THE TIED CARD OF 'seneschallaw22.HttpThrough'. -/
def httpThroughCard : Claim7 := { stood := { row := httpThroughRow, standIns := [], harness := (true, "bc81eb19e4f554f8384fa3bca87139c0af04db129f2d8a0c7d2b740d0e0bb8e7"), looks := true }, kinds := [], alts := [], laidByText := true, laidKinds := [.data, .data, .data, .data, .sentinel, .sentinel, .pinned], laidTests := true, laidLooks := .later }
def HttpThroughCardSaid : Prop := Claim7.holds Tryz.pinned (.plain (OpenSpec.ofChange httpThroughSpec)) httpThroughCard

/-- THE TIED CARD OF 'seneschallaw22.HttpBack'. -/
def httpBackCard : Claim7 := { stood := { row := httpBackRow, standIns := [], harness := (true, "bc81eb19e4f554f8384fa3bca87139c0af04db129f2d8a0c7d2b740d0e0bb8e7"), looks := true }, kinds := [], alts := [], laidByText := true, laidKinds := [.data, .data, .data, .data, .sentinel, .sentinel, .pinned], laidTests := true, laidLooks := .later }
def HttpBackCardSaid : Prop := Claim7.holds Tryz.pinned (.plain (OpenSpec.ofChange httpBackSpec)) httpBackCard

/-- THE TIED CARD OF 'seneschallaw22.HttpAsks'. -/
def httpAsksCard : Claim7 := { stood := { row := httpAsksRow, standIns := [], harness := (true, "bc81eb19e4f554f8384fa3bca87139c0af04db129f2d8a0c7d2b740d0e0bb8e7"), looks := true }, kinds := [], alts := [], laidByText := true, laidKinds := [.data, .data, .data, .data, .sentinel, .sentinel, .pinned], laidTests := true, laidLooks := .later }
def HttpAsksCardSaid : Prop := Claim7.holds Tryz.pinned (.plain (OpenSpec.ofChange httpAsksSpec)) httpAsksCard

/-- THE TIED CARD OF 'seneschallaw22.HttpRequests'. -/
def httpRequestsCard : Claim7 := { stood := { row := httpRequestsRow, standIns := [], harness := (true, "bc81eb19e4f554f8384fa3bca87139c0af04db129f2d8a0c7d2b740d0e0bb8e7"), looks := true }, kinds := [], alts := [], laidByText := true, laidKinds := [.data, .data, .data, .data, .sentinel, .sentinel, .pinned], laidTests := true, laidLooks := .later }
def HttpRequestsCardSaid : Prop := Claim7.holds Tryz.pinned (.plain (OpenSpec.ofChange httpRequestsSpec)) httpRequestsCard

/-- THE TIED CARD OF 'seneschallaw22.HttpHears'. -/
def httpHearsCard : Claim7 := { stood := { row := httpHearsRow, standIns := [], harness := (true, "bc81eb19e4f554f8384fa3bca87139c0af04db129f2d8a0c7d2b740d0e0bb8e7"), looks := true }, kinds := [], alts := [], laidByText := true, laidKinds := [.data, .data, .data, .data, .sentinel, .sentinel, .pinned], laidTests := true, laidLooks := .later }
def HttpHearsCardSaid : Prop := Claim7.holds Tryz.pinned (.plain (OpenSpec.ofChange httpHearsSpec)) httpHearsCard

/-- THE SECOND FORM's CARD OF 'seneschallaw22.HttpReads'. -/
def httpReadsUptoCard : Claim7 := { stood := { row := httpReadsUptoRow, standIns := [], harness := (true, "bc81eb19e4f554f8384fa3bca87139c0af04db129f2d8a0c7d2b740d0e0bb8e7"), looks := true }, kinds := [], alts := [], laidByText := true, laidKinds := [.data, .data, .data, .data, .sentinel, .sentinel, .pinned], laidTests := true, laidLooks := .later }
def HttpReadsUptoCardSaid : Prop := Claim7.holds Tryz.pinned (.plain (OpenSpec.upto httpReadsSpec)) httpReadsUptoCard

/-- THE SECOND FORM's CARD OF 'seneschallaw22.HttpPrints'. -/
def httpPrintsUptoCard : Claim7 := { stood := { row := httpPrintsUptoRow, standIns := [], harness := (true, "bc81eb19e4f554f8384fa3bca87139c0af04db129f2d8a0c7d2b740d0e0bb8e7"), looks := true }, kinds := [], alts := [], laidByText := true, laidKinds := [.data, .data, .data, .data, .sentinel, .sentinel, .pinned], laidTests := true, laidLooks := .later }
def HttpPrintsUptoCardSaid : Prop := Claim7.holds Tryz.pinned (.plain (OpenSpec.upto httpPrintsSpec)) httpPrintsUptoCard

/-- THE SECOND FORM's CARD OF 'seneschallaw22.HttpReplies'. -/
def httpRepliesUptoCard : Claim7 := { stood := { row := httpRepliesUptoRow, standIns := [], harness := (true, "bc81eb19e4f554f8384fa3bca87139c0af04db129f2d8a0c7d2b740d0e0bb8e7"), looks := true }, kinds := [], alts := [], laidByText := true, laidKinds := [.data, .data, .data, .data, .sentinel, .sentinel, .pinned], laidTests := true, laidLooks := .later }
def HttpRepliesUptoCardSaid : Prop := Claim7.holds Tryz.pinned (.plain (OpenSpec.upto httpRepliesSpec)) httpRepliesUptoCard

/-- THE SECOND FORM's CARD OF 'seneschallaw22.HttpPieces'. -/
def httpPiecesUptoCard : Claim7 := { stood := { row := httpPiecesUptoRow, standIns := [], harness := (true, "bc81eb19e4f554f8384fa3bca87139c0af04db129f2d8a0c7d2b740d0e0bb8e7"), looks := true }, kinds := [], alts := [], laidByText := true, laidKinds := [.data, .data, .data, .data, .sentinel, .sentinel, .pinned], laidTests := true, laidLooks := .later }
def HttpPiecesUptoCardSaid : Prop := Claim7.holds Tryz.pinned (.plain (OpenSpec.upto httpPiecesSpec)) httpPiecesUptoCard

/-- THE SECOND FORM's CARD OF 'seneschallaw22.HttpThrough'. -/
def httpThroughUptoCard : Claim7 := { stood := { row := httpThroughUptoRow, standIns := [], harness := (true, "bc81eb19e4f554f8384fa3bca87139c0af04db129f2d8a0c7d2b740d0e0bb8e7"), looks := true }, kinds := [], alts := [], laidByText := true, laidKinds := [.data, .data, .data, .data, .sentinel, .sentinel, .pinned], laidTests := true, laidLooks := .later }
def HttpThroughUptoCardSaid : Prop := Claim7.holds Tryz.pinned (.plain (OpenSpec.upto httpThroughSpec)) httpThroughUptoCard

/-- THE SECOND FORM's CARD OF 'seneschallaw22.HttpBack'. -/
def httpBackUptoCard : Claim7 := { stood := { row := httpBackUptoRow, standIns := [], harness := (true, "bc81eb19e4f554f8384fa3bca87139c0af04db129f2d8a0c7d2b740d0e0bb8e7"), looks := true }, kinds := [], alts := [], laidByText := true, laidKinds := [.data, .data, .data, .data, .sentinel, .sentinel, .pinned], laidTests := true, laidLooks := .later }
def HttpBackUptoCardSaid : Prop := Claim7.holds Tryz.pinned (.plain (OpenSpec.upto httpBackSpec)) httpBackUptoCard

/-- THE SECOND FORM's CARD OF 'seneschallaw22.HttpAsks'. -/
def httpAsksUptoCard : Claim7 := { stood := { row := httpAsksUptoRow, standIns := [], harness := (true, "bc81eb19e4f554f8384fa3bca87139c0af04db129f2d8a0c7d2b740d0e0bb8e7"), looks := true }, kinds := [], alts := [], laidByText := true, laidKinds := [.data, .data, .data, .data, .sentinel, .sentinel, .pinned], laidTests := true, laidLooks := .later }
def HttpAsksUptoCardSaid : Prop := Claim7.holds Tryz.pinned (.plain (OpenSpec.upto httpAsksSpec)) httpAsksUptoCard

/-- THE SECOND FORM's CARD OF 'seneschallaw22.HttpRequests'. -/
def httpRequestsUptoCard : Claim7 := { stood := { row := httpRequestsUptoRow, standIns := [], harness := (true, "bc81eb19e4f554f8384fa3bca87139c0af04db129f2d8a0c7d2b740d0e0bb8e7"), looks := true }, kinds := [], alts := [], laidByText := true, laidKinds := [.data, .data, .data, .data, .sentinel, .sentinel, .pinned], laidTests := true, laidLooks := .later }
def HttpRequestsUptoCardSaid : Prop := Claim7.holds Tryz.pinned (.plain (OpenSpec.upto httpRequestsSpec)) httpRequestsUptoCard

/-- THE SECOND FORM's CARD OF 'seneschallaw22.HttpHears'. -/
def httpHearsUptoCard : Claim7 := { stood := { row := httpHearsUptoRow, standIns := [], harness := (true, "bc81eb19e4f554f8384fa3bca87139c0af04db129f2d8a0c7d2b740d0e0bb8e7"), looks := true }, kinds := [], alts := [], laidByText := true, laidKinds := [.data, .data, .data, .data, .sentinel, .sentinel, .pinned], laidTests := true, laidLooks := .later }
def HttpHearsUptoCardSaid : Prop := Claim7.holds Tryz.pinned (.plain (OpenSpec.upto httpHearsSpec)) httpHearsUptoCard
end Rows
end Go.Proofs.YtfdoofnmjehecaaGreatDoor
