/-
  DERIVED. GIVEN WITH THE SEED: THE CARDS: each row of YtflkddllofeiaaaDoorRows.lean that lists a variable, with what it lists TIED to the program's text (the seventh form; the later family's looks); each row that meets fmt, with fmt's text TOLD by the authors' own Lean function (tested against real Go, not proved from fmt's source: count such statements apart). THE CARD IS WHAT COUNTS. Prove the row's statement (the work); the ties are given (YtflkddllofeiaaaDoorTie.lean); close each card by the builder's one call (the guide's Derived/Test/ToyasCard.lean, 'card_holds'). Laid BY PROGRAM, IN A SANDBOX (cutbox-door.mjs). By AI agents, Wed Nov 11 2026. No macro, syntax, notation, axiom, sorry.
-/
import Derived.Test.YtflkddllofeiaaaDoorRows
import GoSem.ClaimSeven
namespace Go.Proofs.YtflkddllofeiaaaDoor
namespace Rows

/-- THE TIED CARD OF 'custodylaw11.StoreHash'. -/
def storeHashCard : Claim7 := { stood := { row := storeHashRow, standIns := [], harness := (true, "fa7842dac80b0e5bc179d4f76967ac4e713a48a3d0f9cde4562fccff67c717ac"), looks := true }, kinds := [], alts := [], laidByText := true, laidKinds := [.handle], laidTests := true, laidLooks := .later }
def StoreHashCardSaid : Prop := Claim7.holds Tryd.pinned (.plain (OpenSpec.ofChange storeHashSpec)) storeHashCard

/-- THE TIED CARD OF 'custodylaw11.StorePrunes'. -/
def storePrunesCard : Claim7 := { stood := { row := storePrunesRow, standIns := [], harness := (true, "fa7842dac80b0e5bc179d4f76967ac4e713a48a3d0f9cde4562fccff67c717ac"), looks := true }, kinds := [], alts := [], laidByText := true, laidKinds := [.handle], laidTests := true, laidLooks := .later }
def StorePrunesCardSaid : Prop := Claim7.holds Tryd.pinned (.plain (OpenSpec.ofChange storePrunesSpec)) storePrunesCard

/-- THE SECOND FORM's CARD OF 'custodylaw11.StoreHash'. -/
def storeHashUptoCard : Claim7 := { stood := { row := storeHashUptoRow, standIns := [], harness := (true, "fa7842dac80b0e5bc179d4f76967ac4e713a48a3d0f9cde4562fccff67c717ac"), looks := true }, kinds := [], alts := [], laidByText := true, laidKinds := [.handle], laidTests := true, laidLooks := .later }
def StoreHashUptoCardSaid : Prop := Claim7.holds Tryd.pinned (.plain (OpenSpec.upto storeHashSpec)) storeHashUptoCard

/-- THE SECOND FORM's CARD OF 'custodylaw11.StorePrunes'. -/
def storePrunesUptoCard : Claim7 := { stood := { row := storePrunesUptoRow, standIns := [], harness := (true, "fa7842dac80b0e5bc179d4f76967ac4e713a48a3d0f9cde4562fccff67c717ac"), looks := true }, kinds := [], alts := [], laidByText := true, laidKinds := [.handle], laidTests := true, laidLooks := .later }
def StorePrunesUptoCardSaid : Prop := Claim7.holds Tryd.pinned (.plain (OpenSpec.upto storePrunesSpec)) storePrunesUptoCard
end Rows
end Go.Proofs.YtflkddllofeiaaaDoor
