/-
  NARROWER THAN 'FOR EVERY INPUT', by the rows' own cells (each row's printed sentence says how): BalanceSame: laid · BalanceChecks: laid · BalanceFirst: laid · BalanceMoves: laid · BalanceConserves: laid · BalanceBack: laid · BalanceKnown: laid.
  DERIVED. THE GIVEN ROWS OF THIS SEAT. 7 by the template 'for every input the law returns true; each argument reads behind the call as it read before'; 0 by the template 'total and deterministic' (their statements: YtcgcgekefhhjhaaDoorTotals.lean).
  GIVEN WITH THE SEED: the statements are not yours to turn. If you find one false, say at which input.
  Laid BY PROGRAM, IN A SANDBOX (cutbox-rows.mjs): the forced cells as the released guide's own fill.sh prints them over the translation 0a7e7c972732f45a… (all of the seat's roots in one cut). By AI agents, Wed Nov 11 2026. No macro, syntax, notation, axiom, sorry.
-/
import Derived.Test.YtcgcgekefhhjhaaDoorChecked
import GoSem.Claim
import GoSem.ClaimJoined
import GoSem.ClaimMapViews
import Derived.JoinedTies
import Derived.KernelRfl
namespace Go.Proofs.YtcgcgekefhhjhaaDoor
/- THE CELL 'sum', in the pinned program and in every row, IS THE sha256 OF THE DUMP (.gsa) THAT YtcgcgekefhhjhaaDoorProg.lean LOADS. Nothing in Lean hashes anything: it is a label: what it is worth is what the hold of that sum in a sandbox is worth. -/
noncomputable def Tryd.pinned : Pinned := { name := "ytcgcgekefhhjhaadoor", sum := "0a7e7c972732f45a9f57758fe5390729b340e4c158707a6f2fd0d4ea8e28e68e", checked := Tryd.checked }
namespace Rows
def none {H : Type} : Left H := { results := [], args := [] }

/- WHAT THE LISTED PACKAGE-LEVEL VARIABLES READ AS WHEN THE CALL BEGINS. Each datum BY PROGRAM (the guide's laid-datum.mjs) off the statement by which the dump's own 'gosem.cut.vars' lays the variable. In a bare row this is a premise. The card (YtcgcgekefhhjhaaDoorCards.lean) ties it to the program's text. -/
def laid_errors_errorType {H : Type} : DataW H := .iface "internal/reflectlite.rtype" (.agg [.ptr (.lit (.string [101, 114, 114, 111, 114]))])

/-- 'custodylaw14.BalanceSame': WHATEVER THE INPUT: true; the input reads as it did. -/
def balanceSameSpec : ChangeSpec := { name := "balanceSame", fn := fun _ => fun
  | [d1, d2] => { results := [.lit (.bool true)], args := [d1, d2] }
  | _ => none }
def balanceSameRow : OpenClaim := { program := "ytcgcgekefhhjhaadoor", sum := "0a7e7c972732f45a9f57758fe5390729b340e4c158707a6f2fd0d4ea8e28e68e", func := "custody/custodylaw14.BalanceSame", spec := "balanceSame", inPlace := ["internal/reflectlite.ValueOf", "(internal/reflectlite.Value).Type", "(internal/reflectlite.Value).IsNil", "internal/reflectlite.TypeOf", "(internal/reflectlite.Value).Elem", "(internal/reflectlite.Value).Set", "slices.overlaps[custody/api.Mark]"], unfollowed := true, recurses := true, named := ["errors.errorType"], apart := false, laid := [("errors.errorType", laid_errors_errorType)] }
def BalanceSameSaid : Prop := balanceSameRow.holds Tryd.pinned (OpenSpec.ofChange balanceSameSpec)

/-- ITS FALSE NEIGHBOUR: 'it returns false'. Refute it at one input. -/
def balanceSameWrong : ChangeSpec := { name := "balanceSame", fn := fun _ => fun
  | [d1, d2] => { results := [.lit (.bool false)], args := [d1, d2] }
  | _ => none }
def BalanceSameWrongFalsely : Prop := balanceSameRow.holds Tryd.pinned (OpenSpec.ofChange balanceSameWrong)

/-- 'custodylaw14.BalanceChecks': WHATEVER THE INPUT: true; the input reads as it did. -/
def balanceChecksSpec : ChangeSpec := { name := "balanceChecks", fn := fun _ => fun
  | [d1, d2] => { results := [.lit (.bool true)], args := [d1, d2] }
  | _ => none }
def balanceChecksRow : OpenClaim := { program := "ytcgcgekefhhjhaadoor", sum := "0a7e7c972732f45a9f57758fe5390729b340e4c158707a6f2fd0d4ea8e28e68e", func := "custody/custodylaw14.BalanceChecks", spec := "balanceChecks", inPlace := ["internal/reflectlite.ValueOf", "(internal/reflectlite.Value).Type", "(internal/reflectlite.Value).IsNil", "internal/reflectlite.TypeOf", "(internal/reflectlite.Value).Elem", "(internal/reflectlite.Value).Set", "slices.overlaps[custody/api.Mark]"], unfollowed := true, recurses := true, named := ["errors.errorType"], apart := false, laid := [("errors.errorType", laid_errors_errorType)] }
def BalanceChecksSaid : Prop := balanceChecksRow.holds Tryd.pinned (OpenSpec.ofChange balanceChecksSpec)

/-- ITS FALSE NEIGHBOUR: 'it returns false'. Refute it at one input. -/
def balanceChecksWrong : ChangeSpec := { name := "balanceChecks", fn := fun _ => fun
  | [d1, d2] => { results := [.lit (.bool false)], args := [d1, d2] }
  | _ => none }
def BalanceChecksWrongFalsely : Prop := balanceChecksRow.holds Tryd.pinned (OpenSpec.ofChange balanceChecksWrong)

/-- 'custodylaw14.BalanceFirst': WHATEVER THE INPUT: true; the input reads as it did. -/
def balanceFirstSpec : ChangeSpec := { name := "balanceFirst", fn := fun _ => fun
  | [d1, d2, d3] => { results := [.lit (.bool true)], args := [d1, d2, d3] }
  | _ => none }
def balanceFirstRow : OpenClaim := { program := "ytcgcgekefhhjhaadoor", sum := "0a7e7c972732f45a9f57758fe5390729b340e4c158707a6f2fd0d4ea8e28e68e", func := "custody/custodylaw14.BalanceFirst", spec := "balanceFirst", inPlace := ["internal/reflectlite.ValueOf", "(internal/reflectlite.Value).Type", "(internal/reflectlite.Value).IsNil", "internal/reflectlite.TypeOf", "(internal/reflectlite.Value).Elem", "(internal/reflectlite.Value).Set", "slices.overlaps[custody/api.Mark]"], unfollowed := true, recurses := true, named := ["errors.errorType"], apart := false, laid := [("errors.errorType", laid_errors_errorType)] }
def BalanceFirstSaid : Prop := balanceFirstRow.holds Tryd.pinned (OpenSpec.ofChange balanceFirstSpec)

/-- ITS FALSE NEIGHBOUR: 'it returns false'. Refute it at one input. -/
def balanceFirstWrong : ChangeSpec := { name := "balanceFirst", fn := fun _ => fun
  | [d1, d2, d3] => { results := [.lit (.bool false)], args := [d1, d2, d3] }
  | _ => none }
def BalanceFirstWrongFalsely : Prop := balanceFirstRow.holds Tryd.pinned (OpenSpec.ofChange balanceFirstWrong)

/-- 'custodylaw14.BalanceMoves': WHATEVER THE INPUT: true; the input reads as it did. -/
def balanceMovesSpec : ChangeSpec := { name := "balanceMoves", fn := fun _ => fun
  | [d1, d2] => { results := [.lit (.bool true)], args := [d1, d2] }
  | _ => none }
def balanceMovesRow : OpenClaim := { program := "ytcgcgekefhhjhaadoor", sum := "0a7e7c972732f45a9f57758fe5390729b340e4c158707a6f2fd0d4ea8e28e68e", func := "custody/custodylaw14.BalanceMoves", spec := "balanceMoves", inPlace := ["internal/reflectlite.ValueOf", "(internal/reflectlite.Value).Type", "(internal/reflectlite.Value).IsNil", "internal/reflectlite.TypeOf", "(internal/reflectlite.Value).Elem", "(internal/reflectlite.Value).Set", "slices.overlaps[custody/api.Mark]"], unfollowed := true, recurses := true, named := ["errors.errorType"], apart := false, laid := [("errors.errorType", laid_errors_errorType)] }
def BalanceMovesSaid : Prop := balanceMovesRow.holds Tryd.pinned (OpenSpec.ofChange balanceMovesSpec)

/-- ITS FALSE NEIGHBOUR: 'it returns false'. Refute it at one input. -/
def balanceMovesWrong : ChangeSpec := { name := "balanceMoves", fn := fun _ => fun
  | [d1, d2] => { results := [.lit (.bool false)], args := [d1, d2] }
  | _ => none }
def BalanceMovesWrongFalsely : Prop := balanceMovesRow.holds Tryd.pinned (OpenSpec.ofChange balanceMovesWrong)

/-- 'custodylaw14.BalanceConserves': WHATEVER THE INPUT: true; the input reads as it did. -/
def balanceConservesSpec : ChangeSpec := { name := "balanceConserves", fn := fun _ => fun
  | [d] => { results := [.lit (.bool true)], args := [d] }
  | _ => none }
def balanceConservesRow : OpenClaim := { program := "ytcgcgekefhhjhaadoor", sum := "0a7e7c972732f45a9f57758fe5390729b340e4c158707a6f2fd0d4ea8e28e68e", func := "custody/custodylaw14.BalanceConserves", spec := "balanceConserves", inPlace := ["internal/reflectlite.ValueOf", "(internal/reflectlite.Value).Type", "(internal/reflectlite.Value).IsNil", "internal/reflectlite.TypeOf", "(internal/reflectlite.Value).Elem", "(internal/reflectlite.Value).Set", "slices.overlaps[custody/api.Mark]"], unfollowed := true, recurses := true, named := ["errors.errorType"], apart := false, laid := [("errors.errorType", laid_errors_errorType)] }
def BalanceConservesSaid : Prop := balanceConservesRow.holds Tryd.pinned (OpenSpec.ofChange balanceConservesSpec)

/-- ITS FALSE NEIGHBOUR: 'it returns false'. Refute it at one input. -/
def balanceConservesWrong : ChangeSpec := { name := "balanceConserves", fn := fun _ => fun
  | [d] => { results := [.lit (.bool false)], args := [d] }
  | _ => none }
def BalanceConservesWrongFalsely : Prop := balanceConservesRow.holds Tryd.pinned (OpenSpec.ofChange balanceConservesWrong)

/-- 'custodylaw14.BalanceBack': WHATEVER THE INPUT: true; the input reads as it did. -/
def balanceBackSpec : ChangeSpec := { name := "balanceBack", fn := fun _ => fun
  | [d1, d2, d3] => { results := [.lit (.bool true)], args := [d1, d2, d3] }
  | _ => none }
def balanceBackRow : OpenClaim := { program := "ytcgcgekefhhjhaadoor", sum := "0a7e7c972732f45a9f57758fe5390729b340e4c158707a6f2fd0d4ea8e28e68e", func := "custody/custodylaw14.BalanceBack", spec := "balanceBack", inPlace := ["internal/reflectlite.ValueOf", "(internal/reflectlite.Value).Type", "(internal/reflectlite.Value).IsNil", "internal/reflectlite.TypeOf", "(internal/reflectlite.Value).Elem", "(internal/reflectlite.Value).Set", "slices.overlaps[custody/api.Mark]"], unfollowed := true, recurses := true, named := ["errors.errorType"], apart := false, laid := [("errors.errorType", laid_errors_errorType)] }
def BalanceBackSaid : Prop := balanceBackRow.holds Tryd.pinned (OpenSpec.ofChange balanceBackSpec)

/-- ITS FALSE NEIGHBOUR: 'it returns false'. Refute it at one input. -/
def balanceBackWrong : ChangeSpec := { name := "balanceBack", fn := fun _ => fun
  | [d1, d2, d3] => { results := [.lit (.bool false)], args := [d1, d2, d3] }
  | _ => none }
def BalanceBackWrongFalsely : Prop := balanceBackRow.holds Tryd.pinned (OpenSpec.ofChange balanceBackWrong)

/-- 'custodylaw14.BalanceKnown': WHATEVER THE INPUT: true; the input reads as it did. -/
def balanceKnownSpec : ChangeSpec := { name := "balanceKnown", fn := fun _ => fun
  | [] => { results := [.lit (.bool true)], args := [] }
  | _ => none }
def balanceKnownRow : OpenClaim := { program := "ytcgcgekefhhjhaadoor", sum := "0a7e7c972732f45a9f57758fe5390729b340e4c158707a6f2fd0d4ea8e28e68e", func := "custody/custodylaw14.BalanceKnown", spec := "balanceKnown", inPlace := ["internal/reflectlite.ValueOf", "(internal/reflectlite.Value).Type", "(internal/reflectlite.Value).IsNil", "internal/reflectlite.TypeOf", "(internal/reflectlite.Value).Elem", "(internal/reflectlite.Value).Set", "slices.overlaps[custody/api.Mark]"], unfollowed := true, recurses := true, named := ["errors.errorType"], apart := false, laid := [("errors.errorType", laid_errors_errorType)] }
def BalanceKnownSaid : Prop := balanceKnownRow.holds Tryd.pinned (OpenSpec.ofChange balanceKnownSpec)

/-- ITS FALSE NEIGHBOUR: 'it returns false'. Refute it at one input. -/
def balanceKnownWrong : ChangeSpec := { name := "balanceKnown", fn := fun _ => fun
  | [] => { results := [.lit (.bool false)], args := [] }
  | _ => none }
def BalanceKnownWrongFalsely : Prop := balanceKnownRow.holds Tryd.pinned (OpenSpec.ofChange balanceKnownWrong)

/- THE SECOND FORM. 'bulk': how many values and letters a reading holds, each counted each time it is reached (what is shared counts as often as it is met; a slice's spare places count too). A statement '..UptoSaid' is the law's where the arguments, and the package variables that the reading takes, are together of bulk at most 1048576: NARROWER than '..Said'. Prove '..Said' where nothing that the law and all that it calls make is longer than what came in: it says more and counts as full. Else prove '..UptoSaid'. A law counts once. -/
mutual
def uptoBulk {H : Type} : DataW H → Nat
  | .lit (.string bytes) => bytes.length + 1
  | .lit _ => 1
  | .nil => 1
  | .ptr d => uptoBulk d + 1
  | .slice elems spare => uptoBulkAll elems + uptoBulkAll spare + 1
  | .agg parts => uptoBulkAll parts + 1
  | .iface _ d => uptoBulk d + 1
  | .map entries => uptoBulkEntries entries + 1
  | .held _ => 1
def uptoBulkAll {H : Type} : List (DataW H) → Nat
  | [] => 0
  | d :: r => uptoBulk d + uptoBulkAll r
def uptoBulkEntries {H : Type} : List (Lit × DataW H) → Nat
  | [] => 0
  | x :: r => uptoBulkEntry x + uptoBulkEntries r
def uptoBulkEntry {H : Type} : Lit × DataW H → Nat
  | (.string bytes, d) => bytes.length + uptoBulk d + 1
  | (_, d) => uptoBulk d + 1
 end
def uptoSmall : (H : Type) → List (DataW H) → Bool := fun _ ds => decide (uptoBulkAll ds ≤ 1048576)
def OpenSpec.upto (s : _root_.Go.ChangeSpec) : _root_.Go.OpenSpec := { _root_.Go.OpenSpec.ofChange s with cond := some uptoSmall }

/-- 'custodylaw14.BalanceSame', WHERE WHAT IT READS IS OF BULK AT MOST 1048576: true; the input reads as it did. -/
def balanceSameUptoRow : OpenClaim := { program := "ytcgcgekefhhjhaadoor", sum := "0a7e7c972732f45a9f57758fe5390729b340e4c158707a6f2fd0d4ea8e28e68e", func := "custody/custodylaw14.BalanceSame", spec := "balanceSame", inPlace := ["internal/reflectlite.ValueOf", "(internal/reflectlite.Value).Type", "(internal/reflectlite.Value).IsNil", "internal/reflectlite.TypeOf", "(internal/reflectlite.Value).Elem", "(internal/reflectlite.Value).Set", "slices.overlaps[custody/api.Mark]"], unfollowed := true, recurses := true, named := ["errors.errorType"], apart := false, laid := [("errors.errorType", laid_errors_errorType)], narrowed := true }
def BalanceSameUptoSaid : Prop := balanceSameUptoRow.holds Tryd.pinned (OpenSpec.upto balanceSameSpec)

/-- 'custodylaw14.BalanceChecks', WHERE WHAT IT READS IS OF BULK AT MOST 1048576: true; the input reads as it did. -/
def balanceChecksUptoRow : OpenClaim := { program := "ytcgcgekefhhjhaadoor", sum := "0a7e7c972732f45a9f57758fe5390729b340e4c158707a6f2fd0d4ea8e28e68e", func := "custody/custodylaw14.BalanceChecks", spec := "balanceChecks", inPlace := ["internal/reflectlite.ValueOf", "(internal/reflectlite.Value).Type", "(internal/reflectlite.Value).IsNil", "internal/reflectlite.TypeOf", "(internal/reflectlite.Value).Elem", "(internal/reflectlite.Value).Set", "slices.overlaps[custody/api.Mark]"], unfollowed := true, recurses := true, named := ["errors.errorType"], apart := false, laid := [("errors.errorType", laid_errors_errorType)], narrowed := true }
def BalanceChecksUptoSaid : Prop := balanceChecksUptoRow.holds Tryd.pinned (OpenSpec.upto balanceChecksSpec)

/-- 'custodylaw14.BalanceFirst', WHERE WHAT IT READS IS OF BULK AT MOST 1048576: true; the input reads as it did. -/
def balanceFirstUptoRow : OpenClaim := { program := "ytcgcgekefhhjhaadoor", sum := "0a7e7c972732f45a9f57758fe5390729b340e4c158707a6f2fd0d4ea8e28e68e", func := "custody/custodylaw14.BalanceFirst", spec := "balanceFirst", inPlace := ["internal/reflectlite.ValueOf", "(internal/reflectlite.Value).Type", "(internal/reflectlite.Value).IsNil", "internal/reflectlite.TypeOf", "(internal/reflectlite.Value).Elem", "(internal/reflectlite.Value).Set", "slices.overlaps[custody/api.Mark]"], unfollowed := true, recurses := true, named := ["errors.errorType"], apart := false, laid := [("errors.errorType", laid_errors_errorType)], narrowed := true }
def BalanceFirstUptoSaid : Prop := balanceFirstUptoRow.holds Tryd.pinned (OpenSpec.upto balanceFirstSpec)

/-- 'custodylaw14.BalanceMoves', WHERE WHAT IT READS IS OF BULK AT MOST 1048576: true; the input reads as it did. -/
def balanceMovesUptoRow : OpenClaim := { program := "ytcgcgekefhhjhaadoor", sum := "0a7e7c972732f45a9f57758fe5390729b340e4c158707a6f2fd0d4ea8e28e68e", func := "custody/custodylaw14.BalanceMoves", spec := "balanceMoves", inPlace := ["internal/reflectlite.ValueOf", "(internal/reflectlite.Value).Type", "(internal/reflectlite.Value).IsNil", "internal/reflectlite.TypeOf", "(internal/reflectlite.Value).Elem", "(internal/reflectlite.Value).Set", "slices.overlaps[custody/api.Mark]"], unfollowed := true, recurses := true, named := ["errors.errorType"], apart := false, laid := [("errors.errorType", laid_errors_errorType)], narrowed := true }
def BalanceMovesUptoSaid : Prop := balanceMovesUptoRow.holds Tryd.pinned (OpenSpec.upto balanceMovesSpec)

/-- 'custodylaw14.BalanceConserves', WHERE WHAT IT READS IS OF BULK AT MOST 1048576: true; the input reads as it did. -/
def balanceConservesUptoRow : OpenClaim := { program := "ytcgcgekefhhjhaadoor", sum := "0a7e7c972732f45a9f57758fe5390729b340e4c158707a6f2fd0d4ea8e28e68e", func := "custody/custodylaw14.BalanceConserves", spec := "balanceConserves", inPlace := ["internal/reflectlite.ValueOf", "(internal/reflectlite.Value).Type", "(internal/reflectlite.Value).IsNil", "internal/reflectlite.TypeOf", "(internal/reflectlite.Value).Elem", "(internal/reflectlite.Value).Set", "slices.overlaps[custody/api.Mark]"], unfollowed := true, recurses := true, named := ["errors.errorType"], apart := false, laid := [("errors.errorType", laid_errors_errorType)], narrowed := true }
def BalanceConservesUptoSaid : Prop := balanceConservesUptoRow.holds Tryd.pinned (OpenSpec.upto balanceConservesSpec)

/-- 'custodylaw14.BalanceBack', WHERE WHAT IT READS IS OF BULK AT MOST 1048576: true; the input reads as it did. -/
def balanceBackUptoRow : OpenClaim := { program := "ytcgcgekefhhjhaadoor", sum := "0a7e7c972732f45a9f57758fe5390729b340e4c158707a6f2fd0d4ea8e28e68e", func := "custody/custodylaw14.BalanceBack", spec := "balanceBack", inPlace := ["internal/reflectlite.ValueOf", "(internal/reflectlite.Value).Type", "(internal/reflectlite.Value).IsNil", "internal/reflectlite.TypeOf", "(internal/reflectlite.Value).Elem", "(internal/reflectlite.Value).Set", "slices.overlaps[custody/api.Mark]"], unfollowed := true, recurses := true, named := ["errors.errorType"], apart := false, laid := [("errors.errorType", laid_errors_errorType)], narrowed := true }
def BalanceBackUptoSaid : Prop := balanceBackUptoRow.holds Tryd.pinned (OpenSpec.upto balanceBackSpec)

/-- 'custodylaw14.BalanceKnown', WHERE WHAT IT READS IS OF BULK AT MOST 1048576: true; the input reads as it did. -/
def balanceKnownUptoRow : OpenClaim := { program := "ytcgcgekefhhjhaadoor", sum := "0a7e7c972732f45a9f57758fe5390729b340e4c158707a6f2fd0d4ea8e28e68e", func := "custody/custodylaw14.BalanceKnown", spec := "balanceKnown", inPlace := ["internal/reflectlite.ValueOf", "(internal/reflectlite.Value).Type", "(internal/reflectlite.Value).IsNil", "internal/reflectlite.TypeOf", "(internal/reflectlite.Value).Elem", "(internal/reflectlite.Value).Set", "slices.overlaps[custody/api.Mark]"], unfollowed := true, recurses := true, named := ["errors.errorType"], apart := false, laid := [("errors.errorType", laid_errors_errorType)], narrowed := true }
def BalanceKnownUptoSaid : Prop := balanceKnownUptoRow.holds Tryd.pinned (OpenSpec.upto balanceKnownSpec)

end Rows
end Go.Proofs.YtcgcgekefhhjhaaDoor
