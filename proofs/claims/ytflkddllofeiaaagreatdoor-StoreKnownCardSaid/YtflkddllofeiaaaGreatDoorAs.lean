/- errors.As (target *api.Fault) at nil and at a number; custodykit.Num and custodykit.Plain at these. -/
import Derived.Test.YtflkddllofeiaaaGreatDoorErr
import Derived.Test.YtflkddllofeiaaaGreatDoorBase
namespace Go.Proofs.YtflkddllofeiaaaGreatDoor
set_option linter.unusedSimpArgs false
set_option linter.unusedVariables false
open Go.RowKit Go.Extern.Stop Go.Stop Go.Extern

/-- What the package variable errors.errorType holds. -/
def HG (w : World) : Prop := w.cell? ⟨0, 0, none⟩ = some (.iface 176 (.agg #[.pointer (some ⟨1, 61, none⟩)]))
theorem HG.lt {w : World} (h : HG w) : 0 < w.heap.size := World.block_lt_of_cell? w ⟨0, 0, none⟩ h
theorem HG.below {w w' : World} (h : HG w) (hb : Below w.heap.size w w') : HG w' := (hb.cell (p := ⟨0, 0, none⟩) h.lt).trans h
theorem HG.alloc {w : World} (h : HG w) (o : Obj) : HG (w.alloc o) := h.below ((Below.refl _ _).alloc (Nat.le_refl _) _)

theorem as_nil (t : Value) (w : World) : Calls Tryz.prog 68 #[.nilIface, t] w fun e w' => e = .returned (.bool false) ∧ w = w' := by
  go_enter Tryz.func68, Tryz.ntmps68
  go_wp2
  go_ret
  exact ⟨rfl, rfl⟩

set_option maxRecDepth 100000 in
set_option maxHeartbeats 4000000 in
theorem as_errno (m : Int) (t : Addr) (w : World) (hG : HG w) :
    Calls Tryz.prog 68 #[.iface 100 (.int .i64 m), .iface 104 (.pointer (some t))] w fun e w' => e = .returned (.bool false) ∧ Below w.heap.size w w' := by
  have h6 := @run_callFunc_extern Tryz.prog 90 _ rowValueOf Tryz.func90 (by kernel_rfl) (by kernel_rfl) (by kernel_rfl) (by kernel_rfl)
  have h7 := @run_callFunc_extern Tryz.prog 91 _ rowType Tryz.func91 (by kernel_rfl) (by kernel_rfl) (by kernel_rfl) (by kernel_rfl)
  have h8 := @run_callFunc_extern Tryz.prog 92 _ rowIsNil Tryz.func92 (by kernel_rfl) (by kernel_rfl) (by kernel_rfl) (by kernel_rfl)
  have h27 := @run_callFunc_extern Tryz.prog 142 _ rowKind Tryz.func142 (by kernel_rfl) (by kernel_rfl) (by kernel_rfl) (by kernel_rfl)
  have h37 := @run_callFunc_extern Tryz.prog 155 _ rowElemT Tryz.func155 (by kernel_rfl) (by kernel_rfl) (by kernel_rfl) (by kernel_rfl)
  have h38 := @run_callFunc_extern Tryz.prog 156 _ rowImplements Tryz.func156 (by kernel_rfl) (by kernel_rfl) (by kernel_rfl) (by kernel_rfl)
  have h10 := @run_callFunc_extern Tryz.prog 94 _ ReflectliteType.typeOf Tryz.func94 (by kernel_rfl) (by kernel_rfl) (by kernel_rfl) (by kernel_rfl)
  have h35 := @run_callFunc_extern Tryz.prog 153 _ rowAssignable Tryz.func153 (by kernel_rfl) (by kernel_rfl) (by kernel_rfl) (by kernel_rfl)
  have tO := Tryz.typeOfE
  have aE := Tryz.assignableE
  have nA := Tryz.noAsE
  have nU := Tryz.noUnwrapE
  have nUs := Tryz.noUnwrapsE
  have mA := Tryz.mAssignable
  have f6 := Tryz.valueOfP
  have f7 := Tryz.typeP
  have mK := Tryz.mKind
  have mE := Tryz.mElem
  have mI := Tryz.mImplements
  have kP := Tryz.kindP
  have kF := Tryz.kindF
  have eP := Tryz.elemP
  have iF := Tryz.implementsF
  have n8 := Tryz.isNilP ⟨w.heap.size, 0, none⟩ t ((w.alloc (.cells #[.pointer (some t)] 104)).alloc (.cells #[.pointer (some ⟨1, 104, none⟩), .pointer (some ⟨w.heap.size, 0, none⟩), .int .u64 150] 140)) (by simp)
  have hg2 : ((w.alloc (.cells #[.pointer (some t)] 104)).alloc (.cells #[.pointer (some ⟨1, 104, none⟩), .pointer (some ⟨w.heap.size, 0, none⟩), .int .u64 150] 140)).cell? ⟨0, 0, none⟩ = some (.iface 176 (.agg #[.pointer (some ⟨1, 61, none⟩)])) := (hG.alloc _).alloc _
  go_enter Tryz.func68, Tryz.ntmps68
  go_wp2
  refine wp_loop_rounds 1 ?_
  rw [rounds_succ]
  go_wp2
  go_ret
  exact ⟨rfl, ((((Below.refl _ _).alloc (Nat.le_refl _) _).alloc (by simp) _).alloc (by simp; omega) _)⟩
end Go.Proofs.YtflkddllofeiaaaGreatDoor
