/-
  DERIVED. GIVEN WITH THE SEED: THE CARDS: each row of YtflkddllofeiaaaGreatDoorRows.lean that lists a variable, with what it lists TIED to the program's text (the seventh form; the later family's looks); each row that meets fmt, with fmt's text TOLD by the authors' own Lean function (tested against real Go, not proved from fmt's source: count such statements apart). THE CARD IS WHAT COUNTS. Prove the row's statement (the work); the ties are given (YtflkddllofeiaaaGreatDoorTie.lean); close each card by the builder's one call (the guide's Derived/Test/ToyasCard.lean, 'card_holds'). Laid BY PROGRAM, IN A SANDBOX (cutbox-door.mjs). By AI agents, Wed Nov 11 2026. No macro, syntax, notation, axiom, sorry.
-/
import Derived.Test.YtflkddllofeiaaaGreatDoorRows
import GoSem.ClaimSeven
namespace Go.Proofs.YtflkddllofeiaaaGreatDoor
namespace Rows

/-- THE TIED CARD OF 'custodylaw11.StoreScript'. -/
def storeScriptCard : Claim7 := { stood := { row := storeScriptRow, standIns := [], harness := (true, "cb9bfa773389ffb2297a27f25486ecfa7ac9eddf51eb14f9bc98687bf4195ea3"), looks := true }, kinds := [], alts := [], laidByText := true, laidKinds := [.handle], laidTests := true, laidLooks := .later }
def StoreScriptCardSaid : Prop := Claim7.holds Tryz.pinned (.plain (OpenSpec.ofChange storeScriptSpec)) storeScriptCard

/-- THE TIED CARD OF 'custodylaw11.StoreKnown'. -/
def storeKnownCard : Claim7 := { stood := { row := storeKnownRow, standIns := [], harness := (true, "cb9bfa773389ffb2297a27f25486ecfa7ac9eddf51eb14f9bc98687bf4195ea3"), looks := true }, kinds := [], alts := [], laidByText := true, laidKinds := [.handle], laidTests := true, laidLooks := .later }
def StoreKnownCardSaid : Prop := Claim7.holds Tryz.pinned (.plain (OpenSpec.ofChange storeKnownSpec)) storeKnownCard

/-- THE TIED CARD OF 'custodylaw11.StoreShards'. -/
def storeShardsCard : Claim7 := { stood := { row := storeShardsRow, standIns := [], harness := (true, "cb9bfa773389ffb2297a27f25486ecfa7ac9eddf51eb14f9bc98687bf4195ea3"), looks := true }, kinds := [], alts := [], laidByText := true, laidKinds := [.handle], laidTests := true, laidLooks := .later }
def StoreShardsCardSaid : Prop := Claim7.holds Tryz.pinned (.plain (OpenSpec.ofChange storeShardsSpec)) storeShardsCard

/-- THE SECOND FORM's CARD OF 'custodylaw11.StoreScript'. -/
def storeScriptUptoCard : Claim7 := { stood := { row := storeScriptUptoRow, standIns := [], harness := (true, "cb9bfa773389ffb2297a27f25486ecfa7ac9eddf51eb14f9bc98687bf4195ea3"), looks := true }, kinds := [], alts := [], laidByText := true, laidKinds := [.handle], laidTests := true, laidLooks := .later }
def StoreScriptUptoCardSaid : Prop := Claim7.holds Tryz.pinned (.plain (OpenSpec.upto storeScriptSpec)) storeScriptUptoCard

/-- THE SECOND FORM's CARD OF 'custodylaw11.StoreKnown'. -/
def storeKnownUptoCard : Claim7 := { stood := { row := storeKnownUptoRow, standIns := [], harness := (true, "cb9bfa773389ffb2297a27f25486ecfa7ac9eddf51eb14f9bc98687bf4195ea3"), looks := true }, kinds := [], alts := [], laidByText := true, laidKinds := [.handle], laidTests := true, laidLooks := .later }
def StoreKnownUptoCardSaid : Prop := Claim7.holds Tryz.pinned (.plain (OpenSpec.upto storeKnownSpec)) storeKnownUptoCard

/-- THE SECOND FORM's CARD OF 'custodylaw11.StoreShards'. -/
def storeShardsUptoCard : Claim7 := { stood := { row := storeShardsUptoRow, standIns := [], harness := (true, "cb9bfa773389ffb2297a27f25486ecfa7ac9eddf51eb14f9bc98687bf4195ea3"), looks := true }, kinds := [], alts := [], laidByText := true, laidKinds := [.handle], laidTests := true, laidLooks := .later }
def StoreShardsUptoCardSaid : Prop := Claim7.holds Tryz.pinned (.plain (OpenSpec.upto storeShardsSpec)) storeShardsUptoCard
end Rows
end Go.Proofs.YtflkddllofeiaaaGreatDoor
