/-
  DERIVED. GIVEN WITH THE SEED: THE CARDS: each row of YtmcknfpohnobdaaDoorRows.lean that lists a variable, with what it lists TIED to the program's text (the seventh form; the later family's looks); each row that meets fmt, with fmt's text TOLD by the authors' own Lean function (tested against real Go, not proved from fmt's source: count such statements apart). THE CARD IS WHAT COUNTS. Prove the row's statement (the work); the ties are given (YtmcknfpohnobdaaDoorTie.lean); close each card by the builder's one call (the guide's Derived/Test/ToyasCard.lean, 'card_holds'). Laid BY PROGRAM, IN A SANDBOX (cutbox-door.mjs). By AI agents, Wed Nov 11 2026. No macro, syntax, notation, axiom, sorry.
-/
import Derived.Test.YtmcknfpohnobdaaDoorRows
import GoSem.ClaimSeven
namespace Go.Proofs.YtmcknfpohnobdaaDoor
namespace Rows

/-- THE TIED CARD OF 'custodylaw19.QueueScript'. -/
def queueScriptCard : Claim7 := { stood := { row := queueScriptRow, standIns := [], harness := (true, "4511aa1caa27bacc1eae3ee43e866fd9fb7356e62007f3bfbb90e9a27bb93328"), looks := true }, kinds := [], alts := [], laidByText := true, laidKinds := [.handle], laidTests := true, laidLooks := .later }
def QueueScriptCardSaid : Prop := Claim7.holds Tryd.pinned (.plain (OpenSpec.ofChange queueScriptSpec)) queueScriptCard

/-- THE TIED CARD OF 'custodylaw19.QueueKnown'. -/
def queueKnownCard : Claim7 := { stood := { row := queueKnownRow, standIns := [], harness := (true, "4511aa1caa27bacc1eae3ee43e866fd9fb7356e62007f3bfbb90e9a27bb93328"), looks := true }, kinds := [], alts := [], laidByText := true, laidKinds := [.handle], laidTests := true, laidLooks := .later }
def QueueKnownCardSaid : Prop := Claim7.holds Tryd.pinned (.plain (OpenSpec.ofChange queueKnownSpec)) queueKnownCard

/-- THE SECOND FORM's CARD OF 'custodylaw19.QueueScript'. -/
def queueScriptUptoCard : Claim7 := { stood := { row := queueScriptUptoRow, standIns := [], harness := (true, "4511aa1caa27bacc1eae3ee43e866fd9fb7356e62007f3bfbb90e9a27bb93328"), looks := true }, kinds := [], alts := [], laidByText := true, laidKinds := [.handle], laidTests := true, laidLooks := .later }
def QueueScriptUptoCardSaid : Prop := Claim7.holds Tryd.pinned (.plain (OpenSpec.upto queueScriptSpec)) queueScriptUptoCard

/-- THE SECOND FORM's CARD OF 'custodylaw19.QueueKnown'. -/
def queueKnownUptoCard : Claim7 := { stood := { row := queueKnownUptoRow, standIns := [], harness := (true, "4511aa1caa27bacc1eae3ee43e866fd9fb7356e62007f3bfbb90e9a27bb93328"), looks := true }, kinds := [], alts := [], laidByText := true, laidKinds := [.handle], laidTests := true, laidLooks := .later }
def QueueKnownUptoCardSaid : Prop := Claim7.holds Tryd.pinned (.plain (OpenSpec.upto queueKnownSpec)) queueKnownUptoCard
end Rows
end Go.Proofs.YtmcknfpohnobdaaDoor
