/- errors.As (target *api.Fault) at nil and at a number; custodykit.Num and custodykit.Plain at these. -/
import Derived.Test.YtcgcgekefhhjhaaDoorErr
import Derived.Test.YtcgcgekefhhjhaaDoorBase
namespace Go.Proofs.YtcgcgekefhhjhaaDoor
set_option linter.unusedSimpArgs false
set_option linter.unusedVariables false
open Go.RowKit Go.Extern.Stop Go.Stop Go.Extern

/-- What the package variable errors.errorType holds. -/
def HG (w : World) : Prop := w.cell? ⟨0, 0, none⟩ = some (.iface 116 (.agg #[.pointer (some ⟨1, 31, none⟩)]))
theorem HG.lt {w : World} (h : HG w) : 0 < w.heap.size := World.block_lt_of_cell? w ⟨0, 0, none⟩ h
theorem HG.below {w w' : World} (h : HG w) (hb : Below w.heap.size w w') : HG w' := (hb.cell (p := ⟨0, 0, none⟩) h.lt).trans h
theorem HG.alloc {w : World} (h : HG w) (o : Obj) : HG (w.alloc o) := h.below ((Below.refl _ _).alloc (Nat.le_refl _) _)

theorem as_nil (t : Value) (w : World) : Calls Tryd.prog 58 #[.nilIface, t] w fun e w' => e = .returned (.bool false) ∧ w = w' := by
  go_enter Tryd.func58, Tryd.ntmps58
  go_wp2
  go_ret
  exact ⟨rfl, rfl⟩

set_option maxRecDepth 100000 in
set_option maxHeartbeats 4000000 in
theorem as_errno (m : Int) (t : Addr) (w : World) (hG : HG w) :
    Calls Tryd.prog 58 #[.iface 65 (.int .i64 m), .iface 81 (.pointer (some t))] w fun e w' => e = .returned (.bool false) ∧ Below w.heap.size w w' := by
  have h6 := @run_callFunc_extern Tryd.prog 69 _ rowValueOf Tryd.func69 (by kernel_rfl) (by kernel_rfl) (by kernel_rfl) (by kernel_rfl)
  have h7 := @run_callFunc_extern Tryd.prog 70 _ rowType Tryd.func70 (by kernel_rfl) (by kernel_rfl) (by kernel_rfl) (by kernel_rfl)
  have h8 := @run_callFunc_extern Tryd.prog 71 _ rowIsNil Tryd.func71 (by kernel_rfl) (by kernel_rfl) (by kernel_rfl) (by kernel_rfl)
  have h27 := @run_callFunc_extern Tryd.prog 96 _ rowKind Tryd.func96 (by kernel_rfl) (by kernel_rfl) (by kernel_rfl) (by kernel_rfl)
  have h37 := @run_callFunc_extern Tryd.prog 113 _ rowElemT Tryd.func113 (by kernel_rfl) (by kernel_rfl) (by kernel_rfl) (by kernel_rfl)
  have h38 := @run_callFunc_extern Tryd.prog 114 _ rowImplements Tryd.func114 (by kernel_rfl) (by kernel_rfl) (by kernel_rfl) (by kernel_rfl)
  have h10 := @run_callFunc_extern Tryd.prog 76 _ ReflectliteType.typeOf Tryd.func76 (by kernel_rfl) (by kernel_rfl) (by kernel_rfl) (by kernel_rfl)
  have h35 := @run_callFunc_extern Tryd.prog 111 _ rowAssignable Tryd.func111 (by kernel_rfl) (by kernel_rfl) (by kernel_rfl) (by kernel_rfl)
  have tO := Tryd.typeOfE
  have aE := Tryd.assignableE
  have nA := Tryd.noAsE
  have nU := Tryd.noUnwrapE
  have nUs := Tryd.noUnwrapsE
  have mA := Tryd.mAssignable
  have f6 := Tryd.valueOfP
  have f7 := Tryd.typeP
  have mK := Tryd.mKind
  have mE := Tryd.mElem
  have mI := Tryd.mImplements
  have kP := Tryd.kindP
  have kF := Tryd.kindF
  have eP := Tryd.elemP
  have iF := Tryd.implementsF
  have n8 := Tryd.isNilP ⟨w.heap.size, 0, none⟩ t ((w.alloc (.cells #[.pointer (some t)] 81)).alloc (.cells #[.pointer (some ⟨1, 81, none⟩), .pointer (some ⟨w.heap.size, 0, none⟩), .int .u64 150] 101)) (by simp)
  have hg2 : ((w.alloc (.cells #[.pointer (some t)] 81)).alloc (.cells #[.pointer (some ⟨1, 81, none⟩), .pointer (some ⟨w.heap.size, 0, none⟩), .int .u64 150] 101)).cell? ⟨0, 0, none⟩ = some (.iface 116 (.agg #[.pointer (some ⟨1, 31, none⟩)])) := (hG.alloc _).alloc _
  go_enter Tryd.func58, Tryd.ntmps58
  go_wp2
  refine wp_loop_rounds 1 ?_
  rw [rounds_succ]
  go_wp2
  go_ret
  exact ⟨rfl, ((((Below.refl _ _).alloc (Nat.le_refl _) _).alloc (by simp) _).alloc (by simp; omega) _)⟩
end Go.Proofs.YtcgcgekefhhjhaaDoor
