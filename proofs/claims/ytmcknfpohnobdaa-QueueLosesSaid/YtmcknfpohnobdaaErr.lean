/- errors.Is, errors.As, custodykit.Num and custodykit.Plain, by contracts: at the errors of package api. -/
import Derived.Test.YtmcknfpohnobdaaChecked
import Derived.WalkKit
import Derived.LaidEql
import Derived.Stop.Asserts
import Derived.RowKitTokens
import Derived.WalkLawsBesides
import Derived.Lib.Hide
import Derived.Outline
import Derived.Deep.QuietTactic
import Derived.BigQuiet
namespace Go.Proofs.Ytmcknfpohnobdaa
set_option linter.unusedSimpArgs false
set_option linter.unusedVariables false
open Go.RowKit Go.Extern.Stop Go.Stop Go.Extern

section
variable {P : Program} (w : World)
theorem run_equalIn_iface_int (d : Nat) {ti tn : TypeId} {ms : Array (String × TypeId)} {i : TypeInfo} {k : IntKind} (a b : Int)
    (hi : P.underlying ti = some (.interface ms)) (hn : P.underlying tn = some (.int k)) (hinfo : P.info? tn = some i) (hcomp : i.comparable = true) :
    (Op.equalIn (d + 2) ti (.iface tn (.int k a)) (.iface tn (.int k b))).run P w = .ok (a == b) w := by
  simp [Op.equalIn, run_underlying hi, run_underlying hn, typeInfo, hinfo, hcomp]
theorem run_eql_iface_int {ti tn : TypeId} {ms : Array (String × TypeId)} {i : TypeInfo} {k : IntKind} (a b : Int)
    (hi : P.underlying ti = some (.interface ms)) (hn : P.underlying tn = some (.int k)) (hinfo : P.info? tn = some i) (hcomp : i.comparable = true) :
    (binOp .eql ti (.iface tn (.int k a)) (.iface tn (.int k b))).run P w = .ok (.bool (a == b)) w := by
  simp only [binOp]
  simp [Op.equal, Op.maxDepth, run_equalIn_iface_int w 9998 a b hi hn hinfo hcomp]
end

/-! ### closed facts -/
def rowComparable : Array Value → Sem Value := ReflectliteType.method fun t => do Rtype.noPackHeld "Comparable" t; pure (.bool (← typeInfo t).comparable)
def rowKind : Array Value → Sem Value := ReflectliteType.abiMethod fun t => do pure (.int .u8 (← Rtype.kind t))
def rowType : Array Value → Sem Value := ReflectliteValue.methodAny (ReflectliteValue.valueError "reflectlite.Value.Type" 0) fun t _ _ _ => ReflectliteType.toType t
def rowIsNil : Array Value → Sem Value := ReflectliteValue.method (ReflectliteValue.valueError "reflectlite.Value.IsNil" 0) ReflectliteValue.isNil
def rowElemT : Array Value → Sem Value := ReflectliteType.method ReflectliteType.elem
def rowImplements : Array Value → Sem Value := ReflectliteType.relation "Implements" ReflectliteType.implements_
def rowAssignable : Array Value → Sem Value := ReflectliteType.relation "AssignableTo" ReflectliteType.assignableTo
def rowValueOf : Array Value → Sem Value := fun args => ReflectliteValue.unpack (args.getD 0 (.tuple #[]))
def rowElem : Array Value → Sem Value := ReflectliteValue.method (ReflectliteValue.valueError "reflectlite.Value.Elem" 0) ReflectliteValue.elem
theorem Try.isComparable (w : World) : (rowComparable #[.agg #[.pointer (some ⟨0, 62, none⟩)]]).run Try.prog w = .ok (.bool true) w := by kernel_rfl
theorem Try.isComp : (Try.prog.info? 62).map (·.comparable) = some true := by kernel_rfl
theorem Try.mComparable (v : Value) (w : World) : (Go.method 219 76 v "Comparable").run Try.prog w = .ok (54, v) w := by kernel_rfl
theorem Try.mKind (h : Value) (w : World) : (Go.method 219 76 (.agg #[h]) "Kind").run Try.prog w = .ok (51, h) w := by kernel_rfl
theorem Try.mElem (h : Value) (w : World) : (Go.method 219 76 (.agg #[h]) "Elem").run Try.prog w = .ok (55, .agg #[h]) w := by kernel_rfl
theorem Try.mImplements (h : Value) (w : World) : (Go.method 219 76 (.agg #[h]) "Implements").run Try.prog w = .ok (56, .agg #[h]) w := by kernel_rfl
theorem Try.mAssignable (h : Value) (w : World) : (Go.method 219 76 (.agg #[h]) "AssignableTo").run Try.prog w = .ok (53, .agg #[h]) w := by kernel_rfl
theorem rlm (z : Sem Value) (f : TypeId → Addr → Nat → Nat → Sem Value) (v : Value) :
    ReflectliteValue.method z f #[v] = (do match ← ReflectliteValue.parts v with | none => z | some (t, a, fl) => f t a fl (fl % 32)) := rfl
/-! ### a number -/
theorem Try.typeOfE (v : Value) (w : World) : (ReflectliteType.typeOf #[.iface 62 v]).run Try.prog w = .ok (.iface 76 (.agg #[.pointer (some ⟨0, 62, none⟩)])) w := by kernel_rfl
theorem Try.noIsE (v : Value) (xT : TypeId) (w : World) : (Instr.typeAssert (.iface 62 v) xT 78 true).run Try.prog w = .ok (.tuple #[.nilIface, .bool false]) w := run_typeAssert_lacksB Try.underlying78 (by kernel_rfl) (by kernel_rfl) v xT w
theorem Try.noUnwrapE (v : Value) (xT : TypeId) (w : World) : (Instr.typeAssert (.iface 62 v) xT 81 true).run Try.prog w = .ok (.tuple #[.nilIface, .bool false]) w := run_typeAssert_lacksB Try.underlying81 (by kernel_rfl) (by kernel_rfl) v xT w
theorem Try.noUnwrapsE (v : Value) (xT : TypeId) (w : World) : (Instr.typeAssert (.iface 62 v) xT 83 true).run Try.prog w = .ok (.tuple #[.nilIface, .bool false]) w := run_typeAssert_lacksB Try.underlying83 (by kernel_rfl) (by kernel_rfl) v xT w
set_option maxRecDepth 100000 in
set_option maxHeartbeats 1000000 in
theorem is_errno (m n : Int) (w : World) :
    Calls Try.prog 28 #[.iface 62 (.int .i64 m), .iface 62 (.int .i64 n)] w fun e w' => e = .returned (.bool (m == n)) ∧ w = w' := by
  obtain ⟨i, hi, hcmp⟩ := Option.map_eq_some_iff.1 Try.isComp
  have h8 := @run_callFunc_extern Try.prog 33 _ ReflectliteType.typeOf Try.func33 (by kernel_rfl) (by kernel_rfl) (by kernel_rfl) (by kernel_rfl)
  have h32 := @run_callFunc_extern Try.prog 54 _ rowComparable Try.func54 (by kernel_rfl) (by kernel_rfl) (by kernel_rfl) (by kernel_rfl)
  have tT := Try.typeOfE
  have cT := Try.isComparable
  have mR := Try.mComparable
  have nE := Try.noIsE
  have uE := Try.noUnwrapE
  have vE := Try.noUnwrapsE
  have heq := fun w => run_eql_iface_int (P := Try.prog) w m n Try.underlying32 Try.underlying62 hi hcmp
  · have e : (m == n) = true ∨ (m == n) = false := by cases (m == n) <;> simp
    rcases e with e | e
    · rw [e] at heq ⊢
      clear e
      go_enter Try.func28, Try.ntmps28
      go_wp2
      refine wp_loop_rounds 1 ?_
      rw [rounds_succ]
      go_wp2
      go_ret
      exact ⟨rfl, rfl⟩
    · rw [e] at heq ⊢
      clear e
      go_enter Try.func28, Try.ntmps28
      go_wp2
      refine wp_loop_rounds 1 ?_
      rw [rounds_succ]
      go_wp2
      go_ret
      exact ⟨rfl, rfl⟩
end Go.Proofs.Ytmcknfpohnobdaa
