/-
  NARROWER THAN 'FOR EVERY INPUT', by the rows' own cells (each row's printed sentence says how): ChainNewest: laid · ChainTypes: laid · ChainScript: laid · ChainKeeps: laid · ChainKnown: laid.
  DERIVED. THE GIVEN ROWS OF THIS SEAT. 5 by the template 'for every input the law returns true; each argument reads behind the call as it read before'; 0 by the template 'total and deterministic' (their statements: YtmljiegeingpeaaDoorTotals.lean).
  GIVEN WITH THE SEED: the statements are not yours to turn. If you find one false, say at which input.
  Laid BY PROGRAM, IN A SANDBOX (cutbox-rows.mjs): the forced cells as the released guide's own fill.sh prints them over the translation 21954c37c5c8cb18… (all of the seat's roots in one cut). By AI agents, Wed Nov 11 2026. No macro, syntax, notation, axiom, sorry.
-/
import Derived.Test.YtmljiegeingpeaaDoorChecked
import GoSem.Claim
import GoSem.ClaimJoined
import GoSem.ClaimMapViews
import Derived.JoinedTies
import Derived.KernelRfl
namespace Go.Proofs.YtmljiegeingpeaaDoor
/- THE CELL 'sum', in the pinned program and in every row, IS THE sha256 OF THE DUMP (.gsa) THAT YtmljiegeingpeaaDoorProg.lean LOADS. Nothing in Lean hashes anything: it is a label: what it is worth is what the hold of that sum in a sandbox is worth. -/
noncomputable def Tryd.pinned : Pinned := { name := "ytmljiegeingpeaadoor", sum := "21954c37c5c8cb18597e21de7142bc0b1adad0fbb1b4bf114e7103f6ec3c46b3", checked := Tryd.checked }
namespace Rows
def none {H : Type} : Left H := { results := [], args := [] }

/- WHAT THE LISTED PACKAGE-LEVEL VARIABLES READ AS WHEN THE CALL BEGINS. Each datum BY PROGRAM (the guide's laid-datum.mjs) off the statement by which the dump's own 'gosem.cut.vars' lays the variable. In a bare row this is a premise. The card (YtmljiegeingpeaaDoorCards.lean) ties it to the program's text. -/
def laid_errors_errorType {H : Type} : DataW H := .iface "internal/reflectlite.rtype" (.agg [.ptr (.lit (.string [101, 114, 114, 111, 114]))])

/-- 'custodylaw10.ChainNewest': WHATEVER THE INPUT: true; the input reads as it did. -/
def chainNewestSpec : ChangeSpec := { name := "chainNewest", fn := fun _ => fun
  | [d1, d2] => { results := [.lit (.bool true)], args := [d1, d2] }
  | _ => none }
def chainNewestRow : OpenClaim := { program := "ytmljiegeingpeaadoor", sum := "21954c37c5c8cb18597e21de7142bc0b1adad0fbb1b4bf114e7103f6ec3c46b3", func := "custody/custodylaw10.ChainNewest", spec := "chainNewest", inPlace := ["internal/reflectlite.TypeOf", "internal/reflectlite.ValueOf", "(internal/reflectlite.Value).Type", "(internal/reflectlite.Value).IsNil", "(internal/reflectlite.Value).Elem", "(internal/reflectlite.Value).Set"], unfollowed := true, recurses := true, named := ["errors.errorType"], apart := false, laid := [("errors.errorType", laid_errors_errorType)] }
def ChainNewestSaid : Prop := chainNewestRow.holds Tryd.pinned (OpenSpec.ofChange chainNewestSpec)

/-- ITS FALSE NEIGHBOUR: 'it returns false'. Refute it at one input. -/
def chainNewestWrong : ChangeSpec := { name := "chainNewest", fn := fun _ => fun
  | [d1, d2] => { results := [.lit (.bool false)], args := [d1, d2] }
  | _ => none }
def ChainNewestWrongFalsely : Prop := chainNewestRow.holds Tryd.pinned (OpenSpec.ofChange chainNewestWrong)

/-- 'custodylaw10.ChainTypes': WHATEVER THE INPUT: true; the input reads as it did. -/
def chainTypesSpec : ChangeSpec := { name := "chainTypes", fn := fun _ => fun
  | [d] => { results := [.lit (.bool true)], args := [d] }
  | _ => none }
def chainTypesRow : OpenClaim := { program := "ytmljiegeingpeaadoor", sum := "21954c37c5c8cb18597e21de7142bc0b1adad0fbb1b4bf114e7103f6ec3c46b3", func := "custody/custodylaw10.ChainTypes", spec := "chainTypes", inPlace := ["internal/reflectlite.TypeOf", "internal/reflectlite.ValueOf", "(internal/reflectlite.Value).Type", "(internal/reflectlite.Value).IsNil", "(internal/reflectlite.Value).Elem", "(internal/reflectlite.Value).Set"], unfollowed := true, recurses := true, named := ["errors.errorType"], apart := false, laid := [("errors.errorType", laid_errors_errorType)] }
def ChainTypesSaid : Prop := chainTypesRow.holds Tryd.pinned (OpenSpec.ofChange chainTypesSpec)

/-- ITS FALSE NEIGHBOUR: 'it returns false'. Refute it at one input. -/
def chainTypesWrong : ChangeSpec := { name := "chainTypes", fn := fun _ => fun
  | [d] => { results := [.lit (.bool false)], args := [d] }
  | _ => none }
def ChainTypesWrongFalsely : Prop := chainTypesRow.holds Tryd.pinned (OpenSpec.ofChange chainTypesWrong)

/-- 'custodylaw10.ChainScript': WHATEVER THE INPUT: true; the input reads as it did. -/
def chainScriptSpec : ChangeSpec := { name := "chainScript", fn := fun _ => fun
  | [d] => { results := [.lit (.bool true)], args := [d] }
  | _ => none }
def chainScriptRow : OpenClaim := { program := "ytmljiegeingpeaadoor", sum := "21954c37c5c8cb18597e21de7142bc0b1adad0fbb1b4bf114e7103f6ec3c46b3", func := "custody/custodylaw10.ChainScript", spec := "chainScript", inPlace := ["internal/reflectlite.TypeOf", "internal/reflectlite.ValueOf", "(internal/reflectlite.Value).Type", "(internal/reflectlite.Value).IsNil", "(internal/reflectlite.Value).Elem", "(internal/reflectlite.Value).Set"], unfollowed := true, recurses := true, named := ["errors.errorType"], apart := false, laid := [("errors.errorType", laid_errors_errorType)] }
def ChainScriptSaid : Prop := chainScriptRow.holds Tryd.pinned (OpenSpec.ofChange chainScriptSpec)

/-- ITS FALSE NEIGHBOUR: 'it returns false'. Refute it at one input. -/
def chainScriptWrong : ChangeSpec := { name := "chainScript", fn := fun _ => fun
  | [d] => { results := [.lit (.bool false)], args := [d] }
  | _ => none }
def ChainScriptWrongFalsely : Prop := chainScriptRow.holds Tryd.pinned (OpenSpec.ofChange chainScriptWrong)

/-- 'custodylaw10.ChainKeeps': WHATEVER THE INPUT: true; the input reads as it did. -/
def chainKeepsSpec : ChangeSpec := { name := "chainKeeps", fn := fun _ => fun
  | [d1, d2, d3, d4] => { results := [.lit (.bool true)], args := [d1, d2, d3, d4] }
  | _ => none }
def chainKeepsRow : OpenClaim := { program := "ytmljiegeingpeaadoor", sum := "21954c37c5c8cb18597e21de7142bc0b1adad0fbb1b4bf114e7103f6ec3c46b3", func := "custody/custodylaw10.ChainKeeps", spec := "chainKeeps", inPlace := ["internal/reflectlite.TypeOf", "internal/reflectlite.ValueOf", "(internal/reflectlite.Value).Type", "(internal/reflectlite.Value).IsNil", "(internal/reflectlite.Value).Elem", "(internal/reflectlite.Value).Set"], unfollowed := true, recurses := true, named := ["errors.errorType"], apart := false, laid := [("errors.errorType", laid_errors_errorType)] }
def ChainKeepsSaid : Prop := chainKeepsRow.holds Tryd.pinned (OpenSpec.ofChange chainKeepsSpec)

/-- ITS FALSE NEIGHBOUR: 'it returns false'. Refute it at one input. -/
def chainKeepsWrong : ChangeSpec := { name := "chainKeeps", fn := fun _ => fun
  | [d1, d2, d3, d4] => { results := [.lit (.bool false)], args := [d1, d2, d3, d4] }
  | _ => none }
def ChainKeepsWrongFalsely : Prop := chainKeepsRow.holds Tryd.pinned (OpenSpec.ofChange chainKeepsWrong)

/-- 'custodylaw10.ChainKnown': WHATEVER THE INPUT: true; the input reads as it did. -/
def chainKnownSpec : ChangeSpec := { name := "chainKnown", fn := fun _ => fun
  | [] => { results := [.lit (.bool true)], args := [] }
  | _ => none }
def chainKnownRow : OpenClaim := { program := "ytmljiegeingpeaadoor", sum := "21954c37c5c8cb18597e21de7142bc0b1adad0fbb1b4bf114e7103f6ec3c46b3", func := "custody/custodylaw10.ChainKnown", spec := "chainKnown", inPlace := ["internal/reflectlite.TypeOf", "internal/reflectlite.ValueOf", "(internal/reflectlite.Value).Type", "(internal/reflectlite.Value).IsNil", "(internal/reflectlite.Value).Elem", "(internal/reflectlite.Value).Set"], unfollowed := true, recurses := true, named := ["errors.errorType"], apart := false, laid := [("errors.errorType", laid_errors_errorType)] }
def ChainKnownSaid : Prop := chainKnownRow.holds Tryd.pinned (OpenSpec.ofChange chainKnownSpec)

/-- ITS FALSE NEIGHBOUR: 'it returns false'. Refute it at one input. -/
def chainKnownWrong : ChangeSpec := { name := "chainKnown", fn := fun _ => fun
  | [] => { results := [.lit (.bool false)], args := [] }
  | _ => none }
def ChainKnownWrongFalsely : Prop := chainKnownRow.holds Tryd.pinned (OpenSpec.ofChange chainKnownWrong)

/- THE SECOND FORM. 'bulk': how many values and letters a reading holds, each counted each time it is reached (what is shared counts as often as it is met; a slice's spare places count too). A statement '..UptoSaid' is the law's where the arguments, and the package variables that the reading takes, are together of bulk at most 1048576: NARROWER than '..Said'. Prove '..Said' where nothing that the law and all that it calls make is longer than what came in: it says more and counts as full. Else prove '..UptoSaid'. A law counts once. -/
mutual
def uptoBulk {H : Type} : DataW H → Nat
  | .lit (.string bytes) => bytes.length + 1
  | .lit _ => 1
  | .nil => 1
  | .ptr d => uptoBulk d + 1
  | .slice elems spare => uptoBulkAll elems + uptoBulkAll spare + 1
  | .agg parts => uptoBulkAll parts + 1
  | .iface _ d => uptoBulk d + 1
  | .map entries => uptoBulkEntries entries + 1
  | .held _ => 1
def uptoBulkAll {H : Type} : List (DataW H) → Nat
  | [] => 0
  | d :: r => uptoBulk d + uptoBulkAll r
def uptoBulkEntries {H : Type} : List (Lit × DataW H) → Nat
  | [] => 0
  | x :: r => uptoBulkEntry x + uptoBulkEntries r
def uptoBulkEntry {H : Type} : Lit × DataW H → Nat
  | (.string bytes, d) => bytes.length + uptoBulk d + 1
  | (_, d) => uptoBulk d + 1
 end
def uptoSmall : (H : Type) → List (DataW H) → Bool := fun _ ds => decide (uptoBulkAll ds ≤ 1048576)
def OpenSpec.upto (s : _root_.Go.ChangeSpec) : _root_.Go.OpenSpec := { _root_.Go.OpenSpec.ofChange s with cond := some uptoSmall }

/-- 'custodylaw10.ChainNewest', WHERE WHAT IT READS IS OF BULK AT MOST 1048576: true; the input reads as it did. -/
def chainNewestUptoRow : OpenClaim := { program := "ytmljiegeingpeaadoor", sum := "21954c37c5c8cb18597e21de7142bc0b1adad0fbb1b4bf114e7103f6ec3c46b3", func := "custody/custodylaw10.ChainNewest", spec := "chainNewest", inPlace := ["internal/reflectlite.TypeOf", "internal/reflectlite.ValueOf", "(internal/reflectlite.Value).Type", "(internal/reflectlite.Value).IsNil", "(internal/reflectlite.Value).Elem", "(internal/reflectlite.Value).Set"], unfollowed := true, recurses := true, named := ["errors.errorType"], apart := false, laid := [("errors.errorType", laid_errors_errorType)], narrowed := true }
def ChainNewestUptoSaid : Prop := chainNewestUptoRow.holds Tryd.pinned (OpenSpec.upto chainNewestSpec)

/-- 'custodylaw10.ChainTypes', WHERE WHAT IT READS IS OF BULK AT MOST 1048576: true; the input reads as it did. -/
def chainTypesUptoRow : OpenClaim := { program := "ytmljiegeingpeaadoor", sum := "21954c37c5c8cb18597e21de7142bc0b1adad0fbb1b4bf114e7103f6ec3c46b3", func := "custody/custodylaw10.ChainTypes", spec := "chainTypes", inPlace := ["internal/reflectlite.TypeOf", "internal/reflectlite.ValueOf", "(internal/reflectlite.Value).Type", "(internal/reflectlite.Value).IsNil", "(internal/reflectlite.Value).Elem", "(internal/reflectlite.Value).Set"], unfollowed := true, recurses := true, named := ["errors.errorType"], apart := false, laid := [("errors.errorType", laid_errors_errorType)], narrowed := true }
def ChainTypesUptoSaid : Prop := chainTypesUptoRow.holds Tryd.pinned (OpenSpec.upto chainTypesSpec)

/-- 'custodylaw10.ChainScript', WHERE WHAT IT READS IS OF BULK AT MOST 1048576: true; the input reads as it did. -/
def chainScriptUptoRow : OpenClaim := { program := "ytmljiegeingpeaadoor", sum := "21954c37c5c8cb18597e21de7142bc0b1adad0fbb1b4bf114e7103f6ec3c46b3", func := "custody/custodylaw10.ChainScript", spec := "chainScript", inPlace := ["internal/reflectlite.TypeOf", "internal/reflectlite.ValueOf", "(internal/reflectlite.Value).Type", "(internal/reflectlite.Value).IsNil", "(internal/reflectlite.Value).Elem", "(internal/reflectlite.Value).Set"], unfollowed := true, recurses := true, named := ["errors.errorType"], apart := false, laid := [("errors.errorType", laid_errors_errorType)], narrowed := true }
def ChainScriptUptoSaid : Prop := chainScriptUptoRow.holds Tryd.pinned (OpenSpec.upto chainScriptSpec)

/-- 'custodylaw10.ChainKeeps', WHERE WHAT IT READS IS OF BULK AT MOST 1048576: true; the input reads as it did. -/
def chainKeepsUptoRow : OpenClaim := { program := "ytmljiegeingpeaadoor", sum := "21954c37c5c8cb18597e21de7142bc0b1adad0fbb1b4bf114e7103f6ec3c46b3", func := "custody/custodylaw10.ChainKeeps", spec := "chainKeeps", inPlace := ["internal/reflectlite.TypeOf", "internal/reflectlite.ValueOf", "(internal/reflectlite.Value).Type", "(internal/reflectlite.Value).IsNil", "(internal/reflectlite.Value).Elem", "(internal/reflectlite.Value).Set"], unfollowed := true, recurses := true, named := ["errors.errorType"], apart := false, laid := [("errors.errorType", laid_errors_errorType)], narrowed := true }
def ChainKeepsUptoSaid : Prop := chainKeepsUptoRow.holds Tryd.pinned (OpenSpec.upto chainKeepsSpec)

/-- 'custodylaw10.ChainKnown', WHERE WHAT IT READS IS OF BULK AT MOST 1048576: true; the input reads as it did. -/
def chainKnownUptoRow : OpenClaim := { program := "ytmljiegeingpeaadoor", sum := "21954c37c5c8cb18597e21de7142bc0b1adad0fbb1b4bf114e7103f6ec3c46b3", func := "custody/custodylaw10.ChainKnown", spec := "chainKnown", inPlace := ["internal/reflectlite.TypeOf", "internal/reflectlite.ValueOf", "(internal/reflectlite.Value).Type", "(internal/reflectlite.Value).IsNil", "(internal/reflectlite.Value).Elem", "(internal/reflectlite.Value).Set"], unfollowed := true, recurses := true, named := ["errors.errorType"], apart := false, laid := [("errors.errorType", laid_errors_errorType)], narrowed := true }
def ChainKnownUptoSaid : Prop := chainKnownUptoRow.holds Tryd.pinned (OpenSpec.upto chainKnownSpec)

end Rows
end Go.Proofs.YtmljiegeingpeaaDoor
