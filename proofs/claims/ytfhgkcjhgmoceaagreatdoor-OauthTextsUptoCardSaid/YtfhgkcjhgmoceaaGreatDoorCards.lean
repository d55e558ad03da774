/-
  DERIVED. GIVEN WITH THE SEED: THE CARDS: each row of YtfhgkcjhgmoceaaGreatDoorRows.lean that lists a variable, with what it lists TIED to the program's text (the seventh form; the later family's looks); each row that meets fmt, with fmt's text TOLD by the authors' own Lean function (tested against real Go, not proved from fmt's source: count such statements apart). THE CARD IS WHAT COUNTS. Prove the row's statement (the work); the ties are given (YtfhgkcjhgmoceaaGreatDoorTie.lean); close each card by the builder's one call (the guide's Derived/Test/ToyasCard.lean, 'card_holds'). Laid BY PROGRAM, IN A SANDBOX (cutbox-door.mjs). By AI agents, Wed Nov 11 2026. No macro, syntax, notation, axiom, sorry.
-/
import Derived.Test.YtfhgkcjhgmoceaaGreatDoorRows
import GoSem.ClaimSeven
namespace Go.Proofs.YtfhgkcjhgmoceaaGreatDoor
namespace Rows

/-- THE TIED CARD OF 'seneschallaw17.OauthTexts'. -/
def oauthTextsCard : Claim7 := { stood := { row := oauthTextsRow, standIns := [], harness := (true, "1ca12f7cdcf8e01f7eaa2446ff3d0df7e73a17abd4be48f498f845270243f178"), looks := true }, kinds := [], alts := [], laidByText := true, laidKinds := [.data, .data, .data, .data, .sentinel, .sentinel, .pinned], laidTests := true, laidLooks := .later }
def OauthTextsCardSaid : Prop := Claim7.holds Tryz.pinned (.plain (OpenSpec.ofChange oauthTextsSpec)) oauthTextsCard

/-- THE TIED CARD OF 'seneschallaw17.OauthLists'. -/
def oauthListsCard : Claim7 := { stood := { row := oauthListsRow, standIns := [], harness := (true, "1ca12f7cdcf8e01f7eaa2446ff3d0df7e73a17abd4be48f498f845270243f178"), looks := true }, kinds := [], alts := [], laidByText := true, laidKinds := [.data, .data, .data, .data, .sentinel, .sentinel, .pinned], laidTests := true, laidLooks := .later }
def OauthListsCardSaid : Prop := Claim7.holds Tryz.pinned (.plain (OpenSpec.ofChange oauthListsSpec)) oauthListsCard

/-- THE SECOND FORM's CARD OF 'seneschallaw17.OauthTexts'. -/
def oauthTextsUptoCard : Claim7 := { stood := { row := oauthTextsUptoRow, standIns := [], harness := (true, "1ca12f7cdcf8e01f7eaa2446ff3d0df7e73a17abd4be48f498f845270243f178"), looks := true }, kinds := [], alts := [], laidByText := true, laidKinds := [.data, .data, .data, .data, .sentinel, .sentinel, .pinned], laidTests := true, laidLooks := .later }
def OauthTextsUptoCardSaid : Prop := Claim7.holds Tryz.pinned (.plain (OpenSpec.upto oauthTextsSpec)) oauthTextsUptoCard

/-- THE SECOND FORM's CARD OF 'seneschallaw17.OauthLists'. -/
def oauthListsUptoCard : Claim7 := { stood := { row := oauthListsUptoRow, standIns := [], harness := (true, "1ca12f7cdcf8e01f7eaa2446ff3d0df7e73a17abd4be48f498f845270243f178"), looks := true }, kinds := [], alts := [], laidByText := true, laidKinds := [.data, .data, .data, .data, .sentinel, .sentinel, .pinned], laidTests := true, laidLooks := .later }
def OauthListsUptoCardSaid : Prop := Claim7.holds Tryz.pinned (.plain (OpenSpec.upto oauthListsSpec)) oauthListsUptoCard
end Rows
end Go.Proofs.YtfhgkcjhgmoceaaGreatDoor
