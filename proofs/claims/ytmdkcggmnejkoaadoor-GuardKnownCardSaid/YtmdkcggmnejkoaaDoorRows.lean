/-
  NARROWER THAN 'FOR EVERY INPUT', by the rows' own cells (each row's printed sentence says how): GuardFits: laid · GuardEncode: laid · GuardCheck: laid · GuardDecode: laid · GuardOwn: laid · GuardParts: laid · GuardBack: laid · GuardKnown: laid.
  DERIVED. THE GIVEN ROWS OF THIS SEAT. 8 by the template 'for every input the law returns true; each argument reads behind the call as it read before'; 0 by the template 'total and deterministic' (their statements: YtmdkcggmnejkoaaDoorTotals.lean).
  GIVEN WITH THE SEED: the statements are not yours to turn. If you find one false, say at which input.
  Laid BY PROGRAM, IN A SANDBOX (cutbox-rows.mjs): the forced cells as the released guide's own fill.sh prints them over the translation dc15759745e5c7a0… (all of the seat's roots in one cut). By AI agents, Wed Nov 11 2026. No macro, syntax, notation, axiom, sorry.
-/
import Derived.Test.YtmdkcggmnejkoaaDoorChecked
import GoSem.Claim
import GoSem.ClaimJoined
import GoSem.ClaimMapViews
import Derived.JoinedTies
import Derived.KernelRfl
namespace Go.Proofs.YtmdkcggmnejkoaaDoor
/- THE CELL 'sum', in the pinned program and in every row, IS THE sha256 OF THE DUMP (.gsa) THAT YtmdkcggmnejkoaaDoorProg.lean LOADS. Nothing in Lean hashes anything: it is a label: what it is worth is what the hold of that sum in a sandbox is worth. -/
noncomputable def Tryd.pinned : Pinned := { name := "ytmdkcggmnejkoaadoor", sum := "dc15759745e5c7a0ea43ca41a3ce76e3efab45e627f442258dd706dda3cd85fa", checked := Tryd.checked }
namespace Rows
def none {H : Type} : Left H := { results := [], args := [] }

/- WHAT THE LISTED PACKAGE-LEVEL VARIABLES READ AS WHEN THE CALL BEGINS. Each datum BY PROGRAM (the guide's laid-datum.mjs) off the statement by which the dump's own 'gosem.cut.vars' lays the variable. In a bare row this is a premise. The card (YtmdkcggmnejkoaaDoorCards.lean) ties it to the program's text. -/
def laid_errors_errorType {H : Type} : DataW H := .iface "internal/reflectlite.rtype" (.agg [.ptr (.lit (.string [101, 114, 114, 111, 114]))])

/-- 'custodylaw16.GuardFits': WHATEVER THE INPUT: true; the input reads as it did. -/
def guardFitsSpec : ChangeSpec := { name := "guardFits", fn := fun _ => fun
  | [d] => { results := [.lit (.bool true)], args := [d] }
  | _ => none }
def guardFitsRow : OpenClaim := { program := "ytmdkcggmnejkoaadoor", sum := "dc15759745e5c7a0ea43ca41a3ce76e3efab45e627f442258dd706dda3cd85fa", func := "custody/custodylaw16.GuardFits", spec := "guardFits", inPlace := ["internal/reflectlite.TypeOf", "internal/reflectlite.ValueOf", "(internal/reflectlite.Value).Type", "(internal/reflectlite.Value).IsNil", "(internal/reflectlite.Value).Elem", "(internal/reflectlite.Value).Set"], unfollowed := true, recurses := true, named := ["errors.errorType"], apart := false, laid := [("errors.errorType", laid_errors_errorType)] }
def GuardFitsSaid : Prop := guardFitsRow.holds Tryd.pinned (OpenSpec.ofChange guardFitsSpec)

/-- ITS FALSE NEIGHBOUR: 'it returns false'. Refute it at one input. -/
def guardFitsWrong : ChangeSpec := { name := "guardFits", fn := fun _ => fun
  | [d] => { results := [.lit (.bool false)], args := [d] }
  | _ => none }
def GuardFitsWrongFalsely : Prop := guardFitsRow.holds Tryd.pinned (OpenSpec.ofChange guardFitsWrong)

/-- 'custodylaw16.GuardEncode': WHATEVER THE INPUT: true; the input reads as it did. -/
def guardEncodeSpec : ChangeSpec := { name := "guardEncode", fn := fun _ => fun
  | [d] => { results := [.lit (.bool true)], args := [d] }
  | _ => none }
def guardEncodeRow : OpenClaim := { program := "ytmdkcggmnejkoaadoor", sum := "dc15759745e5c7a0ea43ca41a3ce76e3efab45e627f442258dd706dda3cd85fa", func := "custody/custodylaw16.GuardEncode", spec := "guardEncode", inPlace := ["internal/reflectlite.TypeOf", "internal/reflectlite.ValueOf", "(internal/reflectlite.Value).Type", "(internal/reflectlite.Value).IsNil", "(internal/reflectlite.Value).Elem", "(internal/reflectlite.Value).Set"], unfollowed := true, recurses := true, named := ["errors.errorType"], apart := false, laid := [("errors.errorType", laid_errors_errorType)] }
def GuardEncodeSaid : Prop := guardEncodeRow.holds Tryd.pinned (OpenSpec.ofChange guardEncodeSpec)

/-- ITS FALSE NEIGHBOUR: 'it returns false'. Refute it at one input. -/
def guardEncodeWrong : ChangeSpec := { name := "guardEncode", fn := fun _ => fun
  | [d] => { results := [.lit (.bool false)], args := [d] }
  | _ => none }
def GuardEncodeWrongFalsely : Prop := guardEncodeRow.holds Tryd.pinned (OpenSpec.ofChange guardEncodeWrong)

/-- 'custodylaw16.GuardCheck': WHATEVER THE INPUT: true; the input reads as it did. -/
def guardCheckSpec : ChangeSpec := { name := "guardCheck", fn := fun _ => fun
  | [d1, d2] => { results := [.lit (.bool true)], args := [d1, d2] }
  | _ => none }
def guardCheckRow : OpenClaim := { program := "ytmdkcggmnejkoaadoor", sum := "dc15759745e5c7a0ea43ca41a3ce76e3efab45e627f442258dd706dda3cd85fa", func := "custody/custodylaw16.GuardCheck", spec := "guardCheck", inPlace := ["internal/reflectlite.TypeOf", "internal/reflectlite.ValueOf", "(internal/reflectlite.Value).Type", "(internal/reflectlite.Value).IsNil", "(internal/reflectlite.Value).Elem", "(internal/reflectlite.Value).Set"], unfollowed := true, recurses := true, named := ["errors.errorType"], apart := false, laid := [("errors.errorType", laid_errors_errorType)] }
def GuardCheckSaid : Prop := guardCheckRow.holds Tryd.pinned (OpenSpec.ofChange guardCheckSpec)

/-- ITS FALSE NEIGHBOUR: 'it returns false'. Refute it at one input. -/
def guardCheckWrong : ChangeSpec := { name := "guardCheck", fn := fun _ => fun
  | [d1, d2] => { results := [.lit (.bool false)], args := [d1, d2] }
  | _ => none }
def GuardCheckWrongFalsely : Prop := guardCheckRow.holds Tryd.pinned (OpenSpec.ofChange guardCheckWrong)

/-- 'custodylaw16.GuardDecode': WHATEVER THE INPUT: true; the input reads as it did. -/
def guardDecodeSpec : ChangeSpec := { name := "guardDecode", fn := fun _ => fun
  | [d] => { results := [.lit (.bool true)], args := [d] }
  | _ => none }
def guardDecodeRow : OpenClaim := { program := "ytmdkcggmnejkoaadoor", sum := "dc15759745e5c7a0ea43ca41a3ce76e3efab45e627f442258dd706dda3cd85fa", func := "custody/custodylaw16.GuardDecode", spec := "guardDecode", inPlace := ["internal/reflectlite.TypeOf", "internal/reflectlite.ValueOf", "(internal/reflectlite.Value).Type", "(internal/reflectlite.Value).IsNil", "(internal/reflectlite.Value).Elem", "(internal/reflectlite.Value).Set"], unfollowed := true, recurses := true, named := ["errors.errorType"], apart := false, laid := [("errors.errorType", laid_errors_errorType)] }
def GuardDecodeSaid : Prop := guardDecodeRow.holds Tryd.pinned (OpenSpec.ofChange guardDecodeSpec)

/-- ITS FALSE NEIGHBOUR: 'it returns false'. Refute it at one input. -/
def guardDecodeWrong : ChangeSpec := { name := "guardDecode", fn := fun _ => fun
  | [d] => { results := [.lit (.bool false)], args := [d] }
  | _ => none }
def GuardDecodeWrongFalsely : Prop := guardDecodeRow.holds Tryd.pinned (OpenSpec.ofChange guardDecodeWrong)

/-- 'custodylaw16.GuardOwn': WHATEVER THE INPUT: true; the input reads as it did. -/
def guardOwnSpec : ChangeSpec := { name := "guardOwn", fn := fun _ => fun
  | [d1, d2, d3] => { results := [.lit (.bool true)], args := [d1, d2, d3] }
  | _ => none }
def guardOwnRow : OpenClaim := { program := "ytmdkcggmnejkoaadoor", sum := "dc15759745e5c7a0ea43ca41a3ce76e3efab45e627f442258dd706dda3cd85fa", func := "custody/custodylaw16.GuardOwn", spec := "guardOwn", inPlace := ["internal/reflectlite.TypeOf", "internal/reflectlite.ValueOf", "(internal/reflectlite.Value).Type", "(internal/reflectlite.Value).IsNil", "(internal/reflectlite.Value).Elem", "(internal/reflectlite.Value).Set"], unfollowed := true, recurses := true, named := ["errors.errorType"], apart := false, laid := [("errors.errorType", laid_errors_errorType)] }
def GuardOwnSaid : Prop := guardOwnRow.holds Tryd.pinned (OpenSpec.ofChange guardOwnSpec)

/-- ITS FALSE NEIGHBOUR: 'it returns false'. Refute it at one input. -/
def guardOwnWrong : ChangeSpec := { name := "guardOwn", fn := fun _ => fun
  | [d1, d2, d3] => { results := [.lit (.bool false)], args := [d1, d2, d3] }
  | _ => none }
def GuardOwnWrongFalsely : Prop := guardOwnRow.holds Tryd.pinned (OpenSpec.ofChange guardOwnWrong)

/-- 'custodylaw16.GuardParts': WHATEVER THE INPUT: true; the input reads as it did. -/
def guardPartsSpec : ChangeSpec := { name := "guardParts", fn := fun _ => fun
  | [d1, d2, d3, d4] => { results := [.lit (.bool true)], args := [d1, d2, d3, d4] }
  | _ => none }
def guardPartsRow : OpenClaim := { program := "ytmdkcggmnejkoaadoor", sum := "dc15759745e5c7a0ea43ca41a3ce76e3efab45e627f442258dd706dda3cd85fa", func := "custody/custodylaw16.GuardParts", spec := "guardParts", inPlace := ["internal/reflectlite.TypeOf", "internal/reflectlite.ValueOf", "(internal/reflectlite.Value).Type", "(internal/reflectlite.Value).IsNil", "(internal/reflectlite.Value).Elem", "(internal/reflectlite.Value).Set"], unfollowed := true, recurses := true, named := ["errors.errorType"], apart := false, laid := [("errors.errorType", laid_errors_errorType)] }
def GuardPartsSaid : Prop := guardPartsRow.holds Tryd.pinned (OpenSpec.ofChange guardPartsSpec)

/-- ITS FALSE NEIGHBOUR: 'it returns false'. Refute it at one input. -/
def guardPartsWrong : ChangeSpec := { name := "guardParts", fn := fun _ => fun
  | [d1, d2, d3, d4] => { results := [.lit (.bool false)], args := [d1, d2, d3, d4] }
  | _ => none }
def GuardPartsWrongFalsely : Prop := guardPartsRow.holds Tryd.pinned (OpenSpec.ofChange guardPartsWrong)

/-- 'custodylaw16.GuardBack': WHATEVER THE INPUT: true; the input reads as it did. -/
def guardBackSpec : ChangeSpec := { name := "guardBack", fn := fun _ => fun
  | [d1, d2, d3] => { results := [.lit (.bool true)], args := [d1, d2, d3] }
  | _ => none }
def guardBackRow : OpenClaim := { program := "ytmdkcggmnejkoaadoor", sum := "dc15759745e5c7a0ea43ca41a3ce76e3efab45e627f442258dd706dda3cd85fa", func := "custody/custodylaw16.GuardBack", spec := "guardBack", inPlace := ["internal/reflectlite.TypeOf", "internal/reflectlite.ValueOf", "(internal/reflectlite.Value).Type", "(internal/reflectlite.Value).IsNil", "(internal/reflectlite.Value).Elem", "(internal/reflectlite.Value).Set"], unfollowed := true, recurses := true, named := ["errors.errorType"], apart := false, laid := [("errors.errorType", laid_errors_errorType)] }
def GuardBackSaid : Prop := guardBackRow.holds Tryd.pinned (OpenSpec.ofChange guardBackSpec)

/-- ITS FALSE NEIGHBOUR: 'it returns false'. Refute it at one input. -/
def guardBackWrong : ChangeSpec := { name := "guardBack", fn := fun _ => fun
  | [d1, d2, d3] => { results := [.lit (.bool false)], args := [d1, d2, d3] }
  | _ => none }
def GuardBackWrongFalsely : Prop := guardBackRow.holds Tryd.pinned (OpenSpec.ofChange guardBackWrong)

/-- 'custodylaw16.GuardKnown': WHATEVER THE INPUT: true; the input reads as it did. -/
def guardKnownSpec : ChangeSpec := { name := "guardKnown", fn := fun _ => fun
  | [] => { results := [.lit (.bool true)], args := [] }
  | _ => none }
def guardKnownRow : OpenClaim := { program := "ytmdkcggmnejkoaadoor", sum := "dc15759745e5c7a0ea43ca41a3ce76e3efab45e627f442258dd706dda3cd85fa", func := "custody/custodylaw16.GuardKnown", spec := "guardKnown", inPlace := ["internal/reflectlite.TypeOf", "internal/reflectlite.ValueOf", "(internal/reflectlite.Value).Type", "(internal/reflectlite.Value).IsNil", "(internal/reflectlite.Value).Elem", "(internal/reflectlite.Value).Set"], unfollowed := true, recurses := true, named := ["errors.errorType"], apart := false, laid := [("errors.errorType", laid_errors_errorType)] }
def GuardKnownSaid : Prop := guardKnownRow.holds Tryd.pinned (OpenSpec.ofChange guardKnownSpec)

/-- ITS FALSE NEIGHBOUR: 'it returns false'. Refute it at one input. -/
def guardKnownWrong : ChangeSpec := { name := "guardKnown", fn := fun _ => fun
  | [] => { results := [.lit (.bool false)], args := [] }
  | _ => none }
def GuardKnownWrongFalsely : Prop := guardKnownRow.holds Tryd.pinned (OpenSpec.ofChange guardKnownWrong)

/- THE SECOND FORM. 'bulk': how many values and letters a reading holds, each counted each time it is reached (what is shared counts as often as it is met; a slice's spare places count too). A statement '..UptoSaid' is the law's where the arguments, and the package variables that the reading takes, are together of bulk at most 1048576: NARROWER than '..Said'. Prove '..Said' where nothing that the law and all that it calls make is longer than what came in: it says more and counts as full. Else prove '..UptoSaid'. A law counts once. -/
mutual
def uptoBulk {H : Type} : DataW H → Nat
  | .lit (.string bytes) => bytes.length + 1
  | .lit _ => 1
  | .nil => 1
  | .ptr d => uptoBulk d + 1
  | .slice elems spare => uptoBulkAll elems + uptoBulkAll spare + 1
  | .agg parts => uptoBulkAll parts + 1
  | .iface _ d => uptoBulk d + 1
  | .map entries => uptoBulkEntries entries + 1
  | .held _ => 1
def uptoBulkAll {H : Type} : List (DataW H) → Nat
  | [] => 0
  | d :: r => uptoBulk d + uptoBulkAll r
def uptoBulkEntries {H : Type} : List (Lit × DataW H) → Nat
  | [] => 0
  | x :: r => uptoBulkEntry x + uptoBulkEntries r
def uptoBulkEntry {H : Type} : Lit × DataW H → Nat
  | (.string bytes, d) => bytes.length + uptoBulk d + 1
  | (_, d) => uptoBulk d + 1
 end
def uptoSmall : (H : Type) → List (DataW H) → Bool := fun _ ds => decide (uptoBulkAll ds ≤ 1048576)
def OpenSpec.upto (s : _root_.Go.ChangeSpec) : _root_.Go.OpenSpec := { _root_.Go.OpenSpec.ofChange s with cond := some uptoSmall }

/-- 'custodylaw16.GuardFits', WHERE WHAT IT READS IS OF BULK AT MOST 1048576: true; the input reads as it did. -/
def guardFitsUptoRow : OpenClaim := { program := "ytmdkcggmnejkoaadoor", sum := "dc15759745e5c7a0ea43ca41a3ce76e3efab45e627f442258dd706dda3cd85fa", func := "custody/custodylaw16.GuardFits", spec := "guardFits", inPlace := ["internal/reflectlite.TypeOf", "internal/reflectlite.ValueOf", "(internal/reflectlite.Value).Type", "(internal/reflectlite.Value).IsNil", "(internal/reflectlite.Value).Elem", "(internal/reflectlite.Value).Set"], unfollowed := true, recurses := true, named := ["errors.errorType"], apart := false, laid := [("errors.errorType", laid_errors_errorType)], narrowed := true }
def GuardFitsUptoSaid : Prop := guardFitsUptoRow.holds Tryd.pinned (OpenSpec.upto guardFitsSpec)

/-- 'custodylaw16.GuardEncode', WHERE WHAT IT READS IS OF BULK AT MOST 1048576: true; the input reads as it did. -/
def guardEncodeUptoRow : OpenClaim := { program := "ytmdkcggmnejkoaadoor", sum := "dc15759745e5c7a0ea43ca41a3ce76e3efab45e627f442258dd706dda3cd85fa", func := "custody/custodylaw16.GuardEncode", spec := "guardEncode", inPlace := ["internal/reflectlite.TypeOf", "internal/reflectlite.ValueOf", "(internal/reflectlite.Value).Type", "(internal/reflectlite.Value).IsNil", "(internal/reflectlite.Value).Elem", "(internal/reflectlite.Value).Set"], unfollowed := true, recurses := true, named := ["errors.errorType"], apart := false, laid := [("errors.errorType", laid_errors_errorType)], narrowed := true }
def GuardEncodeUptoSaid : Prop := guardEncodeUptoRow.holds Tryd.pinned (OpenSpec.upto guardEncodeSpec)

/-- 'custodylaw16.GuardCheck', WHERE WHAT IT READS IS OF BULK AT MOST 1048576: true; the input reads as it did. -/
def guardCheckUptoRow : OpenClaim := { program := "ytmdkcggmnejkoaadoor", sum := "dc15759745e5c7a0ea43ca41a3ce76e3efab45e627f442258dd706dda3cd85fa", func := "custody/custodylaw16.GuardCheck", spec := "guardCheck", inPlace := ["internal/reflectlite.TypeOf", "internal/reflectlite.ValueOf", "(internal/reflectlite.Value).Type", "(internal/reflectlite.Value).IsNil", "(internal/reflectlite.Value).Elem", "(internal/reflectlite.Value).Set"], unfollowed := true, recurses := true, named := ["errors.errorType"], apart := false, laid := [("errors.errorType", laid_errors_errorType)], narrowed := true }
def GuardCheckUptoSaid : Prop := guardCheckUptoRow.holds Tryd.pinned (OpenSpec.upto guardCheckSpec)

/-- 'custodylaw16.GuardDecode', WHERE WHAT IT READS IS OF BULK AT MOST 1048576: true; the input reads as it did. -/
def guardDecodeUptoRow : OpenClaim := { program := "ytmdkcggmnejkoaadoor", sum := "dc15759745e5c7a0ea43ca41a3ce76e3efab45e627f442258dd706dda3cd85fa", func := "custody/custodylaw16.GuardDecode", spec := "guardDecode", inPlace := ["internal/reflectlite.TypeOf", "internal/reflectlite.ValueOf", "(internal/reflectlite.Value).Type", "(internal/reflectlite.Value).IsNil", "(internal/reflectlite.Value).Elem", "(internal/reflectlite.Value).Set"], unfollowed := true, recurses := true, named := ["errors.errorType"], apart := false, laid := [("errors.errorType", laid_errors_errorType)], narrowed := true }
def GuardDecodeUptoSaid : Prop := guardDecodeUptoRow.holds Tryd.pinned (OpenSpec.upto guardDecodeSpec)

/-- 'custodylaw16.GuardOwn', WHERE WHAT IT READS IS OF BULK AT MOST 1048576: true; the input reads as it did. -/
def guardOwnUptoRow : OpenClaim := { program := "ytmdkcggmnejkoaadoor", sum := "dc15759745e5c7a0ea43ca41a3ce76e3efab45e627f442258dd706dda3cd85fa", func := "custody/custodylaw16.GuardOwn", spec := "guardOwn", inPlace := ["internal/reflectlite.TypeOf", "internal/reflectlite.ValueOf", "(internal/reflectlite.Value).Type", "(internal/reflectlite.Value).IsNil", "(internal/reflectlite.Value).Elem", "(internal/reflectlite.Value).Set"], unfollowed := true, recurses := true, named := ["errors.errorType"], apart := false, laid := [("errors.errorType", laid_errors_errorType)], narrowed := true }
def GuardOwnUptoSaid : Prop := guardOwnUptoRow.holds Tryd.pinned (OpenSpec.upto guardOwnSpec)

/-- 'custodylaw16.GuardParts', WHERE WHAT IT READS IS OF BULK AT MOST 1048576: true; the input reads as it did. -/
def guardPartsUptoRow : OpenClaim := { program := "ytmdkcggmnejkoaadoor", sum := "dc15759745e5c7a0ea43ca41a3ce76e3efab45e627f442258dd706dda3cd85fa", func := "custody/custodylaw16.GuardParts", spec := "guardParts", inPlace := ["internal/reflectlite.TypeOf", "internal/reflectlite.ValueOf", "(internal/reflectlite.Value).Type", "(internal/reflectlite.Value).IsNil", "(internal/reflectlite.Value).Elem", "(internal/reflectlite.Value).Set"], unfollowed := true, recurses := true, named := ["errors.errorType"], apart := false, laid := [("errors.errorType", laid_errors_errorType)], narrowed := true }
def GuardPartsUptoSaid : Prop := guardPartsUptoRow.holds Tryd.pinned (OpenSpec.upto guardPartsSpec)

/-- 'custodylaw16.GuardBack', WHERE WHAT IT READS IS OF BULK AT MOST 1048576: true; the input reads as it did. -/
def guardBackUptoRow : OpenClaim := { program := "ytmdkcggmnejkoaadoor", sum := "dc15759745e5c7a0ea43ca41a3ce76e3efab45e627f442258dd706dda3cd85fa", func := "custody/custodylaw16.GuardBack", spec := "guardBack", inPlace := ["internal/reflectlite.TypeOf", "internal/reflectlite.ValueOf", "(internal/reflectlite.Value).Type", "(internal/reflectlite.Value).IsNil", "(internal/reflectlite.Value).Elem", "(internal/reflectlite.Value).Set"], unfollowed := true, recurses := true, named := ["errors.errorType"], apart := false, laid := [("errors.errorType", laid_errors_errorType)], narrowed := true }
def GuardBackUptoSaid : Prop := guardBackUptoRow.holds Tryd.pinned (OpenSpec.upto guardBackSpec)

/-- 'custodylaw16.GuardKnown', WHERE WHAT IT READS IS OF BULK AT MOST 1048576: true; the input reads as it did. -/
def guardKnownUptoRow : OpenClaim := { program := "ytmdkcggmnejkoaadoor", sum := "dc15759745e5c7a0ea43ca41a3ce76e3efab45e627f442258dd706dda3cd85fa", func := "custody/custodylaw16.GuardKnown", spec := "guardKnown", inPlace := ["internal/reflectlite.TypeOf", "internal/reflectlite.ValueOf", "(internal/reflectlite.Value).Type", "(internal/reflectlite.Value).IsNil", "(internal/reflectlite.Value).Elem", "(internal/reflectlite.Value).Set"], unfollowed := true, recurses := true, named := ["errors.errorType"], apart := false, laid := [("errors.errorType", laid_errors_errorType)], narrowed := true }
def GuardKnownUptoSaid : Prop := guardKnownUptoRow.holds Tryd.pinned (OpenSpec.upto guardKnownSpec)

end Rows
end Go.Proofs.YtmdkcggmnejkoaaDoor
