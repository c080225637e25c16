/-
  DERIVED. GIVEN WITH THE SEED: THE CARDS: each row of YtcgcgekefhhjhaaDoorRows.lean that lists a variable, with what it lists TIED to the program's text (the seventh form; the later family's looks); each row that meets fmt, with fmt's text TOLD by the authors' own Lean function (tested against real Go, not proved from fmt's source: count such statements apart). THE CARD IS WHAT COUNTS. Prove the row's statement (the work); the ties are given (YtcgcgekefhhjhaaDoorTie.lean); close each card by the builder's one call (the guide's Derived/Test/ToyasCard.lean, 'card_holds'). Laid BY PROGRAM, IN A SANDBOX (cutbox-door.mjs). By AI agents, Wed Nov 11 2026. No macro, syntax, notation, axiom, sorry.
-/
import Derived.Test.YtcgcgekefhhjhaaDoorRows
import GoSem.ClaimSeven
namespace Go.Proofs.YtcgcgekefhhjhaaDoor
namespace Rows

/-- THE TIED CARD OF 'custodylaw14.BalanceSame'. -/
def balanceSameCard : Claim7 := { stood := { row := balanceSameRow, standIns := [], harness := (true, "ac54521026093ccb17ec9b5b4f3bf3b184a7b9aaa12f26c3e238a8cf7e3ea4ec"), looks := true }, kinds := [], alts := [], laidByText := true, laidKinds := [.handle], laidTests := true, laidLooks := .later }
def BalanceSameCardSaid : Prop := Claim7.holds Tryd.pinned (.plain (OpenSpec.ofChange balanceSameSpec)) balanceSameCard

/-- THE TIED CARD OF 'custodylaw14.BalanceChecks'. -/
def balanceChecksCard : Claim7 := { stood := { row := balanceChecksRow, standIns := [], harness := (true, "ac54521026093ccb17ec9b5b4f3bf3b184a7b9aaa12f26c3e238a8cf7e3ea4ec"), looks := true }, kinds := [], alts := [], laidByText := true, laidKinds := [.handle], laidTests := true, laidLooks := .later }
def BalanceChecksCardSaid : Prop := Claim7.holds Tryd.pinned (.plain (OpenSpec.ofChange balanceChecksSpec)) balanceChecksCard

/-- THE TIED CARD OF 'custodylaw14.BalanceFirst'. -/
def balanceFirstCard : Claim7 := { stood := { row := balanceFirstRow, standIns := [], harness := (true, "ac54521026093ccb17ec9b5b4f3bf3b184a7b9aaa12f26c3e238a8cf7e3ea4ec"), looks := true }, kinds := [], alts := [], laidByText := true, laidKinds := [.handle], laidTests := true, laidLooks := .later }
def BalanceFirstCardSaid : Prop := Claim7.holds Tryd.pinned (.plain (OpenSpec.ofChange balanceFirstSpec)) balanceFirstCard

/-- THE TIED CARD OF 'custodylaw14.BalanceMoves'. -/
def balanceMovesCard : Claim7 := { stood := { row := balanceMovesRow, standIns := [], harness := (true, "ac54521026093ccb17ec9b5b4f3bf3b184a7b9aaa12f26c3e238a8cf7e3ea4ec"), looks := true }, kinds := [], alts := [], laidByText := true, laidKinds := [.handle], laidTests := true, laidLooks := .later }
def BalanceMovesCardSaid : Prop := Claim7.holds Tryd.pinned (.plain (OpenSpec.ofChange balanceMovesSpec)) balanceMovesCard

/-- THE TIED CARD OF 'custodylaw14.BalanceConserves'. -/
def balanceConservesCard : Claim7 := { stood := { row := balanceConservesRow, standIns := [], harness := (true, "ac54521026093ccb17ec9b5b4f3bf3b184a7b9aaa12f26c3e238a8cf7e3ea4ec"), looks := true }, kinds := [], alts := [], laidByText := true, laidKinds := [.handle], laidTests := true, laidLooks := .later }
def BalanceConservesCardSaid : Prop := Claim7.holds Tryd.pinned (.plain (OpenSpec.ofChange balanceConservesSpec)) balanceConservesCard

/-- THE TIED CARD OF 'custodylaw14.BalanceBack'. -/
def balanceBackCard : Claim7 := { stood := { row := balanceBackRow, standIns := [], harness := (true, "ac54521026093ccb17ec9b5b4f3bf3b184a7b9aaa12f26c3e238a8cf7e3ea4ec"), looks := true }, kinds := [], alts := [], laidByText := true, laidKinds := [.handle], laidTests := true, laidLooks := .later }
def BalanceBackCardSaid : Prop := Claim7.holds Tryd.pinned (.plain (OpenSpec.ofChange balanceBackSpec)) balanceBackCard

/-- THE TIED CARD OF 'custodylaw14.BalanceKnown'. -/
def balanceKnownCard : Claim7 := { stood := { row := balanceKnownRow, standIns := [], harness := (true, "ac54521026093ccb17ec9b5b4f3bf3b184a7b9aaa12f26c3e238a8cf7e3ea4ec"), looks := true }, kinds := [], alts := [], laidByText := true, laidKinds := [.handle], laidTests := true, laidLooks := .later }
def BalanceKnownCardSaid : Prop := Claim7.holds Tryd.pinned (.plain (OpenSpec.ofChange balanceKnownSpec)) balanceKnownCard

/-- THE SECOND FORM's CARD OF 'custodylaw14.BalanceSame'. -/
def balanceSameUptoCard : Claim7 := { stood := { row := balanceSameUptoRow, standIns := [], harness := (true, "ac54521026093ccb17ec9b5b4f3bf3b184a7b9aaa12f26c3e238a8cf7e3ea4ec"), looks := true }, kinds := [], alts := [], laidByText := true, laidKinds := [.handle], laidTests := true, laidLooks := .later }
def BalanceSameUptoCardSaid : Prop := Claim7.holds Tryd.pinned (.plain (OpenSpec.upto balanceSameSpec)) balanceSameUptoCard

/-- THE SECOND FORM's CARD OF 'custodylaw14.BalanceChecks'. -/
def balanceChecksUptoCard : Claim7 := { stood := { row := balanceChecksUptoRow, standIns := [], harness := (true, "ac54521026093ccb17ec9b5b4f3bf3b184a7b9aaa12f26c3e238a8cf7e3ea4ec"), looks := true }, kinds := [], alts := [], laidByText := true, laidKinds := [.handle], laidTests := true, laidLooks := .later }
def BalanceChecksUptoCardSaid : Prop := Claim7.holds Tryd.pinned (.plain (OpenSpec.upto balanceChecksSpec)) balanceChecksUptoCard

/-- THE SECOND FORM's CARD OF 'custodylaw14.BalanceFirst'. -/
def balanceFirstUptoCard : Claim7 := { stood := { row := balanceFirstUptoRow, standIns := [], harness := (true, "ac54521026093ccb17ec9b5b4f3bf3b184a7b9aaa12f26c3e238a8cf7e3ea4ec"), looks := true }, kinds := [], alts := [], laidByText := true, laidKinds := [.handle], laidTests := true, laidLooks := .later }
def BalanceFirstUptoCardSaid : Prop := Claim7.holds Tryd.pinned (.plain (OpenSpec.upto balanceFirstSpec)) balanceFirstUptoCard

/-- THE SECOND FORM's CARD OF 'custodylaw14.BalanceMoves'. -/
def balanceMovesUptoCard : Claim7 := { stood := { row := balanceMovesUptoRow, standIns := [], harness := (true, "ac54521026093ccb17ec9b5b4f3bf3b184a7b9aaa12f26c3e238a8cf7e3ea4ec"), looks := true }, kinds := [], alts := [], laidByText := true, laidKinds := [.handle], laidTests := true, laidLooks := .later }
def BalanceMovesUptoCardSaid : Prop := Claim7.holds Tryd.pinned (.plain (OpenSpec.upto balanceMovesSpec)) balanceMovesUptoCard

/-- THE SECOND FORM's CARD OF 'custodylaw14.BalanceConserves'. -/
def balanceConservesUptoCard : Claim7 := { stood := { row := balanceConservesUptoRow, standIns := [], harness := (true, "ac54521026093ccb17ec9b5b4f3bf3b184a7b9aaa12f26c3e238a8cf7e3ea4ec"), looks := true }, kinds := [], alts := [], laidByText := true, laidKinds := [.handle], laidTests := true, laidLooks := .later }
def BalanceConservesUptoCardSaid : Prop := Claim7.holds Tryd.pinned (.plain (OpenSpec.upto balanceConservesSpec)) balanceConservesUptoCard

/-- THE SECOND FORM's CARD OF 'custodylaw14.BalanceBack'. -/
def balanceBackUptoCard : Claim7 := { stood := { row := balanceBackUptoRow, standIns := [], harness := (true, "ac54521026093ccb17ec9b5b4f3bf3b184a7b9aaa12f26c3e238a8cf7e3ea4ec"), looks := true }, kinds := [], alts := [], laidByText := true, laidKinds := [.handle], laidTests := true, laidLooks := .later }
def BalanceBackUptoCardSaid : Prop := Claim7.holds Tryd.pinned (.plain (OpenSpec.upto balanceBackSpec)) balanceBackUptoCard

/-- THE SECOND FORM's CARD OF 'custodylaw14.BalanceKnown'. -/
def balanceKnownUptoCard : Claim7 := { stood := { row := balanceKnownUptoRow, standIns := [], harness := (true, "ac54521026093ccb17ec9b5b4f3bf3b184a7b9aaa12f26c3e238a8cf7e3ea4ec"), looks := true }, kinds := [], alts := [], laidByText := true, laidKinds := [.handle], laidTests := true, laidLooks := .later }
def BalanceKnownUptoCardSaid : Prop := Claim7.holds Tryd.pinned (.plain (OpenSpec.upto balanceKnownSpec)) balanceKnownUptoCard
end Rows
end Go.Proofs.YtcgcgekefhhjhaaDoor
