/-
  DERIVED. GIVEN WITH THE SEED: THE CARDS: each row of YtmnnahkaenikkaaDoorRows.lean that lists a variable, with what it lists TIED to the program's text (the seventh form; the later family's looks); each row that meets fmt, with fmt's text TOLD by the authors' own Lean function (tested against real Go, not proved from fmt's source: count such statements apart). THE CARD IS WHAT COUNTS. Prove the row's statement (the work); the ties are given (YtmnnahkaenikkaaDoorTie.lean); close each card by the builder's one call (the guide's Derived/Test/ToyasCard.lean, 'card_holds'). Laid BY PROGRAM, IN A SANDBOX (cutbox-door.mjs). By AI agents, Wed Nov 11 2026. No macro, syntax, notation, axiom, sorry.
-/
import Derived.Test.YtmnnahkaenikkaaDoorRows
import GoSem.ClaimSeven
namespace Go.Proofs.YtmnnahkaenikkaaDoor
namespace Rows

/-- THE TIED CARD OF 'catacomblaw31.ReplyValues'. -/
def replyValuesCard : Claim7 := { stood := { row := replyValuesRow, standIns := [], harness := (true, "f24230493be4ec34dc915a71c5a09d868c718828d3bf5cd45f58b4ccb4ee3683"), looks := false }, kinds := [], alts := [], laidByText := true, laidKinds := [.data, .data, .data], laidTests := true, laidLooks := .later }
def ReplyValuesCardSaid : Prop := Claim7.holds Tryd.pinned (.plain (OpenSpec.ofChange replyValuesSpec)) replyValuesCard

/-- THE TIED CARD OF 'catacomblaw31.ReplyCodes'. -/
def replyCodesCard : Claim7 := { stood := { row := replyCodesRow, standIns := [], harness := (true, "f24230493be4ec34dc915a71c5a09d868c718828d3bf5cd45f58b4ccb4ee3683"), looks := false }, kinds := [], alts := [], laidByText := true, laidKinds := [.data, .data, .data], laidTests := true, laidLooks := .later }
def ReplyCodesCardSaid : Prop := Claim7.holds Tryd.pinned (.plain (OpenSpec.ofChange replyCodesSpec)) replyCodesCard

/-- THE SECOND FORM's CARD OF 'catacomblaw31.ReplyValues'. -/
def replyValuesUptoCard : Claim7 := { stood := { row := replyValuesUptoRow, standIns := [], harness := (true, "f24230493be4ec34dc915a71c5a09d868c718828d3bf5cd45f58b4ccb4ee3683"), looks := false }, kinds := [], alts := [], laidByText := true, laidKinds := [.data, .data, .data], laidTests := true, laidLooks := .later }
def ReplyValuesUptoCardSaid : Prop := Claim7.holds Tryd.pinned (.plain (OpenSpec.upto replyValuesSpec)) replyValuesUptoCard

/-- THE SECOND FORM's CARD OF 'catacomblaw31.ReplyCodes'. -/
def replyCodesUptoCard : Claim7 := { stood := { row := replyCodesUptoRow, standIns := [], harness := (true, "f24230493be4ec34dc915a71c5a09d868c718828d3bf5cd45f58b4ccb4ee3683"), looks := false }, kinds := [], alts := [], laidByText := true, laidKinds := [.data, .data, .data], laidTests := true, laidLooks := .later }
def ReplyCodesUptoCardSaid : Prop := Claim7.holds Tryd.pinned (.plain (OpenSpec.upto replyCodesSpec)) replyCodesUptoCard
end Rows
end Go.Proofs.YtmnnahkaenikkaaDoor
