/-
  DERIVED. GIVEN WITH THE SEED: THE CARDS: each row of YtmdkcggmnejkoaaDoorRows.lean that lists a variable, with what it lists TIED to the program's text (the seventh form; the later family's looks); each row that meets fmt, with fmt's text TOLD by the authors' own Lean function (tested against real Go, not proved from fmt's source: count such statements apart). THE CARD IS WHAT COUNTS. Prove the row's statement (the work); the ties are given (YtmdkcggmnejkoaaDoorTie.lean); close each card by the builder's one call (the guide's Derived/Test/ToyasCard.lean, 'card_holds'). Laid BY PROGRAM, IN A SANDBOX (cutbox-door.mjs). By AI agents, Wed Nov 11 2026. No macro, syntax, notation, axiom, sorry.
-/
import Derived.Test.YtmdkcggmnejkoaaDoorRows
import GoSem.ClaimSeven
namespace Go.Proofs.YtmdkcggmnejkoaaDoor
namespace Rows

/-- THE TIED CARD OF 'custodylaw16.GuardFits'. -/
def guardFitsCard : Claim7 := { stood := { row := guardFitsRow, standIns := [], harness := (true, "22d65c1b7969a3445936f23bf67bf5a45109c3fc3ff2a0594c4fff7f3e97131e"), looks := true }, kinds := [], alts := [], laidByText := true, laidKinds := [.handle], laidTests := true, laidLooks := .later }
def GuardFitsCardSaid : Prop := Claim7.holds Tryd.pinned (.plain (OpenSpec.ofChange guardFitsSpec)) guardFitsCard

/-- THE TIED CARD OF 'custodylaw16.GuardEncode'. -/
def guardEncodeCard : Claim7 := { stood := { row := guardEncodeRow, standIns := [], harness := (true, "22d65c1b7969a3445936f23bf67bf5a45109c3fc3ff2a0594c4fff7f3e97131e"), looks := true }, kinds := [], alts := [], laidByText := true, laidKinds := [.handle], laidTests := true, laidLooks := .later }
def GuardEncodeCardSaid : Prop := Claim7.holds Tryd.pinned (.plain (OpenSpec.ofChange guardEncodeSpec)) guardEncodeCard

/-- THE TIED CARD OF 'custodylaw16.GuardCheck'. -/
def guardCheckCard : Claim7 := { stood := { row := guardCheckRow, standIns := [], harness := (true, "22d65c1b7969a3445936f23bf67bf5a45109c3fc3ff2a0594c4fff7f3e97131e"), looks := true }, kinds := [], alts := [], laidByText := true, laidKinds := [.handle], laidTests := true, laidLooks := .later }
def GuardCheckCardSaid : Prop := Claim7.holds Tryd.pinned (.plain (OpenSpec.ofChange guardCheckSpec)) guardCheckCard

/-- THE TIED CARD OF 'custodylaw16.GuardDecode'. -/
def guardDecodeCard : Claim7 := { stood := { row := guardDecodeRow, standIns := [], harness := (true, "22d65c1b7969a3445936f23bf67bf5a45109c3fc3ff2a0594c4fff7f3e97131e"), looks := true }, kinds := [], alts := [], laidByText := true, laidKinds := [.handle], laidTests := true, laidLooks := .later }
def GuardDecodeCardSaid : Prop := Claim7.holds Tryd.pinned (.plain (OpenSpec.ofChange guardDecodeSpec)) guardDecodeCard

/-- THE TIED CARD OF 'custodylaw16.GuardOwn'. -/
def guardOwnCard : Claim7 := { stood := { row := guardOwnRow, standIns := [], harness := (true, "22d65c1b7969a3445936f23bf67bf5a45109c3fc3ff2a0594c4fff7f3e97131e"), looks := true }, kinds := [], alts := [], laidByText := true, laidKinds := [.handle], laidTests := true, laidLooks := .later }
def GuardOwnCardSaid : Prop := Claim7.holds Tryd.pinned (.plain (OpenSpec.ofChange guardOwnSpec)) guardOwnCard

/-- THE TIED CARD OF 'custodylaw16.GuardParts'. -/
def guardPartsCard : Claim7 := { stood := { row := guardPartsRow, standIns := [], harness := (true, "22d65c1b7969a3445936f23bf67bf5a45109c3fc3ff2a0594c4fff7f3e97131e"), looks := true }, kinds := [], alts := [], laidByText := true, laidKinds := [.handle], laidTests := true, laidLooks := .later }
def GuardPartsCardSaid : Prop := Claim7.holds Tryd.pinned (.plain (OpenSpec.ofChange guardPartsSpec)) guardPartsCard

/-- THE TIED CARD OF 'custodylaw16.GuardBack'. -/
def guardBackCard : Claim7 := { stood := { row := guardBackRow, standIns := [], harness := (true, "22d65c1b7969a3445936f23bf67bf5a45109c3fc3ff2a0594c4fff7f3e97131e"), looks := true }, kinds := [], alts := [], laidByText := true, laidKinds := [.handle], laidTests := true, laidLooks := .later }
def GuardBackCardSaid : Prop := Claim7.holds Tryd.pinned (.plain (OpenSpec.ofChange guardBackSpec)) guardBackCard

/-- THE TIED CARD OF 'custodylaw16.GuardKnown'. -/
def guardKnownCard : Claim7 := { stood := { row := guardKnownRow, standIns := [], harness := (true, "22d65c1b7969a3445936f23bf67bf5a45109c3fc3ff2a0594c4fff7f3e97131e"), looks := true }, kinds := [], alts := [], laidByText := true, laidKinds := [.handle], laidTests := true, laidLooks := .later }
def GuardKnownCardSaid : Prop := Claim7.holds Tryd.pinned (.plain (OpenSpec.ofChange guardKnownSpec)) guardKnownCard

/-- THE SECOND FORM's CARD OF 'custodylaw16.GuardFits'. -/
def guardFitsUptoCard : Claim7 := { stood := { row := guardFitsUptoRow, standIns := [], harness := (true, "22d65c1b7969a3445936f23bf67bf5a45109c3fc3ff2a0594c4fff7f3e97131e"), looks := true }, kinds := [], alts := [], laidByText := true, laidKinds := [.handle], laidTests := true, laidLooks := .later }
def GuardFitsUptoCardSaid : Prop := Claim7.holds Tryd.pinned (.plain (OpenSpec.upto guardFitsSpec)) guardFitsUptoCard

/-- THE SECOND FORM's CARD OF 'custodylaw16.GuardEncode'. -/
def guardEncodeUptoCard : Claim7 := { stood := { row := guardEncodeUptoRow, standIns := [], harness := (true, "22d65c1b7969a3445936f23bf67bf5a45109c3fc3ff2a0594c4fff7f3e97131e"), looks := true }, kinds := [], alts := [], laidByText := true, laidKinds := [.handle], laidTests := true, laidLooks := .later }
def GuardEncodeUptoCardSaid : Prop := Claim7.holds Tryd.pinned (.plain (OpenSpec.upto guardEncodeSpec)) guardEncodeUptoCard

/-- THE SECOND FORM's CARD OF 'custodylaw16.GuardCheck'. -/
def guardCheckUptoCard : Claim7 := { stood := { row := guardCheckUptoRow, standIns := [], harness := (true, "22d65c1b7969a3445936f23bf67bf5a45109c3fc3ff2a0594c4fff7f3e97131e"), looks := true }, kinds := [], alts := [], laidByText := true, laidKinds := [.handle], laidTests := true, laidLooks := .later }
def GuardCheckUptoCardSaid : Prop := Claim7.holds Tryd.pinned (.plain (OpenSpec.upto guardCheckSpec)) guardCheckUptoCard

/-- THE SECOND FORM's CARD OF 'custodylaw16.GuardDecode'. -/
def guardDecodeUptoCard : Claim7 := { stood := { row := guardDecodeUptoRow, standIns := [], harness := (true, "22d65c1b7969a3445936f23bf67bf5a45109c3fc3ff2a0594c4fff7f3e97131e"), looks := true }, kinds := [], alts := [], laidByText := true, laidKinds := [.handle], laidTests := true, laidLooks := .later }
def GuardDecodeUptoCardSaid : Prop := Claim7.holds Tryd.pinned (.plain (OpenSpec.upto guardDecodeSpec)) guardDecodeUptoCard

/-- THE SECOND FORM's CARD OF 'custodylaw16.GuardOwn'. -/
def guardOwnUptoCard : Claim7 := { stood := { row := guardOwnUptoRow, standIns := [], harness := (true, "22d65c1b7969a3445936f23bf67bf5a45109c3fc3ff2a0594c4fff7f3e97131e"), looks := true }, kinds := [], alts := [], laidByText := true, laidKinds := [.handle], laidTests := true, laidLooks := .later }
def GuardOwnUptoCardSaid : Prop := Claim7.holds Tryd.pinned (.plain (OpenSpec.upto guardOwnSpec)) guardOwnUptoCard

/-- THE SECOND FORM's CARD OF 'custodylaw16.GuardParts'. -/
def guardPartsUptoCard : Claim7 := { stood := { row := guardPartsUptoRow, standIns := [], harness := (true, "22d65c1b7969a3445936f23bf67bf5a45109c3fc3ff2a0594c4fff7f3e97131e"), looks := true }, kinds := [], alts := [], laidByText := true, laidKinds := [.handle], laidTests := true, laidLooks := .later }
def GuardPartsUptoCardSaid : Prop := Claim7.holds Tryd.pinned (.plain (OpenSpec.upto guardPartsSpec)) guardPartsUptoCard

/-- THE SECOND FORM's CARD OF 'custodylaw16.GuardBack'. -/
def guardBackUptoCard : Claim7 := { stood := { row := guardBackUptoRow, standIns := [], harness := (true, "22d65c1b7969a3445936f23bf67bf5a45109c3fc3ff2a0594c4fff7f3e97131e"), looks := true }, kinds := [], alts := [], laidByText := true, laidKinds := [.handle], laidTests := true, laidLooks := .later }
def GuardBackUptoCardSaid : Prop := Claim7.holds Tryd.pinned (.plain (OpenSpec.upto guardBackSpec)) guardBackUptoCard

/-- THE SECOND FORM's CARD OF 'custodylaw16.GuardKnown'. -/
def guardKnownUptoCard : Claim7 := { stood := { row := guardKnownUptoRow, standIns := [], harness := (true, "22d65c1b7969a3445936f23bf67bf5a45109c3fc3ff2a0594c4fff7f3e97131e"), looks := true }, kinds := [], alts := [], laidByText := true, laidKinds := [.handle], laidTests := true, laidLooks := .later }
def GuardKnownUptoCardSaid : Prop := Claim7.holds Tryd.pinned (.plain (OpenSpec.upto guardKnownSpec)) guardKnownUptoCard
end Rows
end Go.Proofs.YtmdkcggmnejkoaaDoor
