/-
  DERIVED. GIVEN WITH THE SEED: THE CARDS: each row of YtmljiegeingpeaaDoorRows.lean that lists a variable, with what it lists TIED to the program's text (the seventh form; the later family's looks); each row that meets fmt, with fmt's text TOLD by the authors' own Lean function (tested against real Go, not proved from fmt's source: count such statements apart). THE CARD IS WHAT COUNTS. Prove the row's statement (the work); the ties are given (YtmljiegeingpeaaDoorTie.lean); close each card by the builder's one call (the guide's Derived/Test/ToyasCard.lean, 'card_holds'). Laid BY PROGRAM, IN A SANDBOX (cutbox-door.mjs). By AI agents, Wed Nov 11 2026. No macro, syntax, notation, axiom, sorry.
-/
import Derived.Test.YtmljiegeingpeaaDoorRows
import GoSem.ClaimSeven
namespace Go.Proofs.YtmljiegeingpeaaDoor
namespace Rows

/-- THE TIED CARD OF 'custodylaw10.ChainNewest'. -/
def chainNewestCard : Claim7 := { stood := { row := chainNewestRow, standIns := [], harness := (true, "ad30452e9ba6ced748de689d59caf85cede5b1bd3607de03dd2d6e835bc193c4"), looks := true }, kinds := [], alts := [], laidByText := true, laidKinds := [.handle], laidTests := true, laidLooks := .later }
def ChainNewestCardSaid : Prop := Claim7.holds Tryd.pinned (.plain (OpenSpec.ofChange chainNewestSpec)) chainNewestCard

/-- THE TIED CARD OF 'custodylaw10.ChainTypes'. -/
def chainTypesCard : Claim7 := { stood := { row := chainTypesRow, standIns := [], harness := (true, "ad30452e9ba6ced748de689d59caf85cede5b1bd3607de03dd2d6e835bc193c4"), looks := true }, kinds := [], alts := [], laidByText := true, laidKinds := [.handle], laidTests := true, laidLooks := .later }
def ChainTypesCardSaid : Prop := Claim7.holds Tryd.pinned (.plain (OpenSpec.ofChange chainTypesSpec)) chainTypesCard

/-- THE TIED CARD OF 'custodylaw10.ChainScript'. -/
def chainScriptCard : Claim7 := { stood := { row := chainScriptRow, standIns := [], harness := (true, "ad30452e9ba6ced748de689d59caf85cede5b1bd3607de03dd2d6e835bc193c4"), looks := true }, kinds := [], alts := [], laidByText := true, laidKinds := [.handle], laidTests := true, laidLooks := .later }
def ChainScriptCardSaid : Prop := Claim7.holds Tryd.pinned (.plain (OpenSpec.ofChange chainScriptSpec)) chainScriptCard

/-- THE TIED CARD OF 'custodylaw10.ChainKeeps'. -/
def chainKeepsCard : Claim7 := { stood := { row := chainKeepsRow, standIns := [], harness := (true, "ad30452e9ba6ced748de689d59caf85cede5b1bd3607de03dd2d6e835bc193c4"), looks := true }, kinds := [], alts := [], laidByText := true, laidKinds := [.handle], laidTests := true, laidLooks := .later }
def ChainKeepsCardSaid : Prop := Claim7.holds Tryd.pinned (.plain (OpenSpec.ofChange chainKeepsSpec)) chainKeepsCard

/-- THE TIED CARD OF 'custodylaw10.ChainKnown'. -/
def chainKnownCard : Claim7 := { stood := { row := chainKnownRow, standIns := [], harness := (true, "ad30452e9ba6ced748de689d59caf85cede5b1bd3607de03dd2d6e835bc193c4"), looks := true }, kinds := [], alts := [], laidByText := true, laidKinds := [.handle], laidTests := true, laidLooks := .later }
def ChainKnownCardSaid : Prop := Claim7.holds Tryd.pinned (.plain (OpenSpec.ofChange chainKnownSpec)) chainKnownCard

/-- THE SECOND FORM's CARD OF 'custodylaw10.ChainNewest'. -/
def chainNewestUptoCard : Claim7 := { stood := { row := chainNewestUptoRow, standIns := [], harness := (true, "ad30452e9ba6ced748de689d59caf85cede5b1bd3607de03dd2d6e835bc193c4"), looks := true }, kinds := [], alts := [], laidByText := true, laidKinds := [.handle], laidTests := true, laidLooks := .later }
def ChainNewestUptoCardSaid : Prop := Claim7.holds Tryd.pinned (.plain (OpenSpec.upto chainNewestSpec)) chainNewestUptoCard

/-- THE SECOND FORM's CARD OF 'custodylaw10.ChainTypes'. -/
def chainTypesUptoCard : Claim7 := { stood := { row := chainTypesUptoRow, standIns := [], harness := (true, "ad30452e9ba6ced748de689d59caf85cede5b1bd3607de03dd2d6e835bc193c4"), looks := true }, kinds := [], alts := [], laidByText := true, laidKinds := [.handle], laidTests := true, laidLooks := .later }
def ChainTypesUptoCardSaid : Prop := Claim7.holds Tryd.pinned (.plain (OpenSpec.upto chainTypesSpec)) chainTypesUptoCard

/-- THE SECOND FORM's CARD OF 'custodylaw10.ChainScript'. -/
def chainScriptUptoCard : Claim7 := { stood := { row := chainScriptUptoRow, standIns := [], harness := (true, "ad30452e9ba6ced748de689d59caf85cede5b1bd3607de03dd2d6e835bc193c4"), looks := true }, kinds := [], alts := [], laidByText := true, laidKinds := [.handle], laidTests := true, laidLooks := .later }
def ChainScriptUptoCardSaid : Prop := Claim7.holds Tryd.pinned (.plain (OpenSpec.upto chainScriptSpec)) chainScriptUptoCard

/-- THE SECOND FORM's CARD OF 'custodylaw10.ChainKeeps'. -/
def chainKeepsUptoCard : Claim7 := { stood := { row := chainKeepsUptoRow, standIns := [], harness := (true, "ad30452e9ba6ced748de689d59caf85cede5b1bd3607de03dd2d6e835bc193c4"), looks := true }, kinds := [], alts := [], laidByText := true, laidKinds := [.handle], laidTests := true, laidLooks := .later }
def ChainKeepsUptoCardSaid : Prop := Claim7.holds Tryd.pinned (.plain (OpenSpec.upto chainKeepsSpec)) chainKeepsUptoCard

/-- THE SECOND FORM's CARD OF 'custodylaw10.ChainKnown'. -/
def chainKnownUptoCard : Claim7 := { stood := { row := chainKnownUptoRow, standIns := [], harness := (true, "ad30452e9ba6ced748de689d59caf85cede5b1bd3607de03dd2d6e835bc193c4"), looks := true }, kinds := [], alts := [], laidByText := true, laidKinds := [.handle], laidTests := true, laidLooks := .later }
def ChainKnownUptoCardSaid : Prop := Claim7.holds Tryd.pinned (.plain (OpenSpec.upto chainKnownSpec)) chainKnownUptoCard
end Rows
end Go.Proofs.YtmljiegeingpeaaDoor
