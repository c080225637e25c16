/- errors.As by contracts: at targets *api.Fault and **balance.wrong; custodykit's Plain, Place, At (printed by gen_as14.py). -/
import Derived.Test.YtcgcgekefhhjhaaDoorErr14
namespace Go.Proofs.YtcgcgekefhhjhaaDoor
set_option linter.unusedSimpArgs false
set_option linter.unusedVariables false
open Go.RowKit Go.Extern.Stop Go.Stop Go.Extern

def rowElemV : Array Value → Sem Value := ReflectliteValue.method (ReflectliteValue.valueError "reflectlite.Value.Elem" 0) ReflectliteValue.elem
def rowSet : Array Value → Sem Value := ReflectliteValue.set
theorem rls (v x : Value) : ReflectliteValue.set #[v, x] = (do
    let (some (dst, a, fl), some (src, b, _)) := (← ReflectliteValue.parts v, ← ReflectliteValue.parts x)
      | unsupported (.noEntry "extern/(internal/reflectlite.Value).Set.zeroValue")
    if fl / ReflectliteValue.flagAddr % 2 == 0 then unsupported (.noEntry "extern/(internal/reflectlite.Value).Set.unaddressable")
    let val ← loadVar src b
    if ← Rtype.directlyAssignable dst src then storeVar dst a val
    else if ← Rtype.implements dst src then
      if (← Rtype.kind src) == 20 then
        match val with
        | .nilIface => unsupported (.noEntry "extern/reflectlite: a nil value of one interface type handed on as a value of another")
        | _ => storeVar dst a val
      else storeVar dst a (.iface src val)
    else panicString ("reflectlite.Set: value of type " ++ (← Rtype.spelt src) ++ " is not assignable to type " ++ (← Rtype.spelt dst))
    pure (.tuple #[])) := rfl
theorem setCells_cons (w : World) (b o : Nat) (v : Value) (vs : List Value) : w.setCells b o (v :: vs) = (w.setCell ⟨b, o, none⟩ v).setCells b (o + 1) vs := rfl
theorem setCells_nil (w : World) (b o : Nat) : w.setCells b o [] = w := rfl

theorem Tryd.valueOfWW (t : Addr) (w : World) : (rowValueOf #[.iface 85 (.pointer (some t))]).run Tryd.prog w
    = .ok (.agg #[.pointer (some ⟨1, 85, none⟩), .pointer (some ⟨w.heap.size, 0, none⟩), .int .u64 150]) (w.alloc (.cells #[.pointer (some t)] 85)) := by kernel_rfl
theorem Tryd.typeWW (a : Addr) (w : World) : (rowType #[.agg #[.pointer (some ⟨1, 85, none⟩), .pointer (some a), .int .u64 150]]).run Tryd.prog w
    = .ok (.iface 116 (.agg #[.pointer (some ⟨1, 85, none⟩)])) w := by kernel_rfl
theorem Tryd.kindWW (w : World) : (rowKind #[.pointer (some ⟨1, 85, none⟩)]).run Tryd.prog w = .ok (.int .u8 22) w := by kernel_rfl
theorem Tryd.kindEWW (w : World) : (rowKind #[.pointer (some ⟨1, 82, none⟩)]).run Tryd.prog w = .ok (.int .u8 22) w := by kernel_rfl
theorem Tryd.partsWW (a : Addr) (w : World) : (ReflectliteValue.parts (.agg #[.pointer (some ⟨1, 85, none⟩), .pointer (some a), .int .u64 150])).run Tryd.prog w = .ok (some (85, a, 150)) w := by kernel_rfl
theorem Tryd.isNilWW (a p : Addr) (W : World) (ha : W.cell? a = some (.pointer (some p))) :
    (rowIsNil #[.agg #[.pointer (some ⟨1, 85, none⟩), .pointer (some a), .int .u64 150]]).run Tryd.prog W = .ok (.bool false) W := by
  rw [rowIsNil, rlm]
  simp only [Sem.run_bind, Tryd.partsWW, Result.andThen]
  simp [ReflectliteValue.isNil, loadVar, isAgg, underlying, Tryd.underlying85, ha, Result.andThen]
theorem Tryd.elemWW (w : World) : (rowElemT #[.agg #[.pointer (some ⟨1, 85, none⟩)]]).run Tryd.prog w = .ok (.iface 116 (.agg #[.pointer (some ⟨1, 82, none⟩)])) w := by kernel_rfl
theorem Tryd.implementsWW (w : World) : (rowImplements #[.agg #[.pointer (some ⟨1, 82, none⟩)], .iface 116 (.agg #[.pointer (some ⟨1, 31, none⟩)])]).run Tryd.prog w = .ok (.bool true) w := by kernel_rfl
theorem Tryd.assignableEWW (w : World) : (rowAssignable #[.agg #[.pointer (some ⟨1, 65, none⟩)], .iface 116 (.agg #[.pointer (some ⟨1, 82, none⟩)])]).run Tryd.prog w = .ok (.bool false) w := by kernel_rfl
theorem Tryd.assignableHitWW (w : World) : (rowAssignable #[.agg #[.pointer (some ⟨1, 82, none⟩)], .iface 116 (.agg #[.pointer (some ⟨1, 82, none⟩)])]).run Tryd.prog w = .ok (.bool true) w := by kernel_rfl
theorem Tryd.typeOfHitWW (v : Value) (w : World) : (ReflectliteType.typeOf #[.iface 82 v]).run Tryd.prog w = .ok (.iface 116 (.agg #[.pointer (some ⟨1, 82, none⟩)])) w := by kernel_rfl
theorem Tryd.elemOfWW (w : World) : (Rtype.elem? 85).run Tryd.prog w = .ok (some 82) w := by kernel_rfl
theorem Tryd.mkEWW (p : Addr) (w : World) : (ReflectliteValue.mk 82 p ReflectliteValue.flagAddr).run Tryd.prog w = .ok (.agg #[.pointer (some ⟨1, 82, none⟩), .pointer (some p), .int .u64 406]) w := by kernel_rfl
theorem Tryd.elemVWW (a p : Addr) (W : World) (ha : W.cell? a = some (.pointer (some p))) :
    (rowElemV #[.agg #[.pointer (some ⟨1, 85, none⟩), .pointer (some a), .int .u64 150]]).run Tryd.prog W = .ok (.agg #[.pointer (some ⟨1, 82, none⟩), .pointer (some p), .int .u64 406]) W := by
  rw [rowElemV, rlm]
  simp only [Sem.run_bind, Tryd.partsWW, Result.andThen]
  simp [ReflectliteValue.elem, loadVar, isAgg, underlying, Tryd.underlying85, ha, Result.andThen, Tryd.elemOfWW, Tryd.mkEWW]
theorem Tryd.partsEaWW (a : Addr) (w : World) : (ReflectliteValue.parts (.agg #[.pointer (some ⟨1, 82, none⟩), .pointer (some a), .int .u64 406])).run Tryd.prog w = .ok (some (82, a, 406)) w := by kernel_rfl
theorem Tryd.partsEWW (a : Addr) (w : World) : (ReflectliteValue.parts (.agg #[.pointer (some ⟨1, 82, none⟩), .pointer (some a), .int .u64 150])).run Tryd.prog w = .ok (some (82, a, 150)) w := by kernel_rfl
theorem Tryd.directWW (w : World) : (Rtype.directlyAssignable 82 82).run Tryd.prog w = .ok true w := by kernel_rfl
theorem Tryd.sizeWW : (Tryd.prog.info? 82).map (·.size) = some 1 := by kernel_rfl

theorem Tryd.valueOfPF (t : Addr) (w : World) : (rowValueOf #[.iface 81 (.pointer (some t))]).run Tryd.prog w
    = .ok (.agg #[.pointer (some ⟨1, 81, none⟩), .pointer (some ⟨w.heap.size, 0, none⟩), .int .u64 150]) (w.alloc (.cells #[.pointer (some t)] 81)) := by kernel_rfl
theorem Tryd.typePF (a : Addr) (w : World) : (rowType #[.agg #[.pointer (some ⟨1, 81, none⟩), .pointer (some a), .int .u64 150]]).run Tryd.prog w
    = .ok (.iface 116 (.agg #[.pointer (some ⟨1, 81, none⟩)])) w := by kernel_rfl
theorem Tryd.kindPF (w : World) : (rowKind #[.pointer (some ⟨1, 81, none⟩)]).run Tryd.prog w = .ok (.int .u8 22) w := by kernel_rfl
theorem Tryd.kindEPF (w : World) : (rowKind #[.pointer (some ⟨1, 78, none⟩)]).run Tryd.prog w = .ok (.int .u8 25) w := by kernel_rfl
theorem Tryd.partsPF (a : Addr) (w : World) : (ReflectliteValue.parts (.agg #[.pointer (some ⟨1, 81, none⟩), .pointer (some a), .int .u64 150])).run Tryd.prog w = .ok (some (81, a, 150)) w := by kernel_rfl
theorem Tryd.isNilPF (a p : Addr) (W : World) (ha : W.cell? a = some (.pointer (some p))) :
    (rowIsNil #[.agg #[.pointer (some ⟨1, 81, none⟩), .pointer (some a), .int .u64 150]]).run Tryd.prog W = .ok (.bool false) W := by
  rw [rowIsNil, rlm]
  simp only [Sem.run_bind, Tryd.partsPF, Result.andThen]
  simp [ReflectliteValue.isNil, loadVar, isAgg, underlying, Tryd.underlying81, ha, Result.andThen]
theorem Tryd.elemPF (w : World) : (rowElemT #[.agg #[.pointer (some ⟨1, 81, none⟩)]]).run Tryd.prog w = .ok (.iface 116 (.agg #[.pointer (some ⟨1, 78, none⟩)])) w := by kernel_rfl
theorem Tryd.implementsPF (w : World) : (rowImplements #[.agg #[.pointer (some ⟨1, 78, none⟩)], .iface 116 (.agg #[.pointer (some ⟨1, 31, none⟩)])]).run Tryd.prog w = .ok (.bool true) w := by kernel_rfl
theorem Tryd.assignableEPF (w : World) : (rowAssignable #[.agg #[.pointer (some ⟨1, 65, none⟩)], .iface 116 (.agg #[.pointer (some ⟨1, 78, none⟩)])]).run Tryd.prog w = .ok (.bool false) w := by kernel_rfl
theorem Tryd.assignableHitPF (w : World) : (rowAssignable #[.agg #[.pointer (some ⟨1, 78, none⟩)], .iface 116 (.agg #[.pointer (some ⟨1, 78, none⟩)])]).run Tryd.prog w = .ok (.bool true) w := by kernel_rfl
theorem Tryd.typeOfHitPF (v : Value) (w : World) : (ReflectliteType.typeOf #[.iface 78 v]).run Tryd.prog w = .ok (.iface 116 (.agg #[.pointer (some ⟨1, 78, none⟩)])) w := by kernel_rfl
theorem Tryd.elemOfPF (w : World) : (Rtype.elem? 81).run Tryd.prog w = .ok (some 78) w := by kernel_rfl
theorem Tryd.mkEPF (p : Addr) (w : World) : (ReflectliteValue.mk 78 p ReflectliteValue.flagAddr).run Tryd.prog w = .ok (.agg #[.pointer (some ⟨1, 78, none⟩), .pointer (some p), .int .u64 409]) w := by kernel_rfl
theorem Tryd.elemVPF (a p : Addr) (W : World) (ha : W.cell? a = some (.pointer (some p))) :
    (rowElemV #[.agg #[.pointer (some ⟨1, 81, none⟩), .pointer (some a), .int .u64 150]]).run Tryd.prog W = .ok (.agg #[.pointer (some ⟨1, 78, none⟩), .pointer (some p), .int .u64 409]) W := by
  rw [rowElemV, rlm]
  simp only [Sem.run_bind, Tryd.partsPF, Result.andThen]
  simp [ReflectliteValue.elem, loadVar, isAgg, underlying, Tryd.underlying81, ha, Result.andThen, Tryd.elemOfPF, Tryd.mkEPF]
theorem Tryd.partsEaPF (a : Addr) (w : World) : (ReflectliteValue.parts (.agg #[.pointer (some ⟨1, 78, none⟩), .pointer (some a), .int .u64 409])).run Tryd.prog w = .ok (some (78, a, 409)) w := by kernel_rfl
theorem Tryd.partsEPF (a : Addr) (w : World) : (ReflectliteValue.parts (.agg #[.pointer (some ⟨1, 78, none⟩), .pointer (some a), .int .u64 153])).run Tryd.prog w = .ok (some (78, a, 153)) w := by kernel_rfl
theorem Tryd.directPF (w : World) : (Rtype.directlyAssignable 78 78).run Tryd.prog w = .ok true w := by kernel_rfl
theorem Tryd.sizePF : (Tryd.prog.info? 78).map (·.size) = some 3 := by kernel_rfl

theorem Tryd.valueOfHitWW (e : Addr) (w : World) : (rowValueOf #[.iface 82 (.pointer (some e))]).run Tryd.prog w
    = .ok (.agg #[.pointer (some ⟨1, 82, none⟩), .pointer (some ⟨w.heap.size, 0, none⟩), .int .u64 150]) (w.alloc (.cells #[.pointer (some e)] 82)) := by kernel_rfl
theorem Tryd.setWW (h b : Nat) (e : Addr) (o0 : Value) (W : World) (hb : Blk W b 82 #[.pointer (some e)]) (ht : Blk W h 82 #[o0]) :
    (rowSet #[.agg #[.pointer (some ⟨1, 82, none⟩), .pointer (some ⟨h, 0, none⟩), .int .u64 406], .agg #[.pointer (some ⟨1, 82, none⟩), .pointer (some ⟨b, 0, none⟩), .int .u64 150]]).run Tryd.prog W
      = .ok (.tuple #[]) (W.setCell ⟨h, 0, none⟩ (.pointer (some e))) := by
  have hb0 : W.cell? ⟨b, 0, none⟩ = some (.pointer (some e)) := hb.cell 0
  have ht0 : W.cell? ⟨h, 0, none⟩ = some o0 := ht.cell 0
  have hf0 : W.frozen? ⟨h, 0, none⟩ = false := ht.frozen 0
  rw [rowSet, rls]
  simp only [Sem.run_bind, Tryd.partsEaWW, Tryd.partsEWW, Result.andThen]
  obtain ⟨i, hi, hs⟩ := Option.map_eq_some_iff.1 Tryd.sizeWW
  simp [ReflectliteValue.flagAddr, loadVar, isAgg, underlying, Tryd.underlying82, hb0, Result.andThen, Tryd.directWW, storeVar, sizeOf, typeInfo, hi, hs, Value.cells, storeCells, Addr.add]
  rw [run_store Tryd.prog W ⟨h, 0, none⟩ _ _ (by rfl)]
  simp [ht0, hf0]

theorem Tryd.valueOfHitPF (no li pl : Int) (w : World) : (rowValueOf #[.iface 78 (.agg #[.int .i64 no, .int .i64 li, .int .i64 pl])]).run Tryd.prog w
    = .ok (.agg #[.pointer (some ⟨1, 78, none⟩), .pointer (some ⟨w.heap.size, 0, none⟩), .int .u64 153]) (w.alloc (.cells #[.int .i64 no, .int .i64 li, .int .i64 pl] 78)) := by kernel_rfl
theorem Tryd.setPF (h b : Nat) (no li pl : Int) (o0 o1 o2 : Value) (W : World) (hb : Blk W b 78 #[.int .i64 no, .int .i64 li, .int .i64 pl]) (ht : Blk W h 78 #[o0, o1, o2]) :
    (rowSet #[.agg #[.pointer (some ⟨1, 78, none⟩), .pointer (some ⟨h, 0, none⟩), .int .u64 409], .agg #[.pointer (some ⟨1, 78, none⟩), .pointer (some ⟨b, 0, none⟩), .int .u64 153]]).run Tryd.prog W
      = .ok (.tuple #[]) (W.setCells h 0 [.int .i64 no, .int .i64 li, .int .i64 pl]) := by
  have l1 := run_loadVar_mid (P := Tryd.prog) W b 0 78 [.int .i64 no, .int .i64 li, .int .i64 pl] _ (fun j v hv => by rw [Nat.zero_add, hb.cell j]; simpa using hv) Tryd.underlying78 rfl Tryd.sizePF
  have l2 := run_storeVar_mid (P := Tryd.prog) W h 0 78 #[.int .i64 no, .int .i64 li, .int .i64 pl] (fun j hj => by
    refine ⟨?_, ht.frozen _⟩
    rw [Nat.zero_add, ht.cell j]
    have hj3 : j < 3 := hj
    match j, hj3 with
    | 0, _ => rfl
    | 1, _ => rfl
    | 2, _ => rfl) Tryd.sizePF (by simp [Value.oneCell'])
  rw [rowSet, rls]
  simp only [Sem.run_bind, Tryd.partsEaPF, Tryd.partsEPF, Result.andThen]
  simp [ReflectliteValue.flagAddr, l1, l2, Result.andThen, Tryd.directPF]

set_option maxRecDepth 100000 in
set_option maxHeartbeats 4000000 in
theorem as_errno_w (m : Int) (t : Addr) (w : World) (hG : HG w) :
    Calls Tryd.prog 58 #[.iface 65 (.int .i64 m), .iface 85 (.pointer (some t))] w fun e w' => e = .returned (.bool false) ∧ Below w.heap.size w w' := by
  have h6 := @run_callFunc_extern Tryd.prog 69 _ rowValueOf Tryd.func69 (by kernel_rfl) (by kernel_rfl) (by kernel_rfl) (by kernel_rfl)
  have h7 := @run_callFunc_extern Tryd.prog 70 _ rowType Tryd.func70 (by kernel_rfl) (by kernel_rfl) (by kernel_rfl) (by kernel_rfl)
  have h8 := @run_callFunc_extern Tryd.prog 71 _ rowIsNil Tryd.func71 (by kernel_rfl) (by kernel_rfl) (by kernel_rfl) (by kernel_rfl)
  have h27 := @run_callFunc_extern Tryd.prog 96 _ rowKind Tryd.func96 (by kernel_rfl) (by kernel_rfl) (by kernel_rfl) (by kernel_rfl)
  have h37 := @run_callFunc_extern Tryd.prog 113 _ rowElemT Tryd.func113 (by kernel_rfl) (by kernel_rfl) (by kernel_rfl) (by kernel_rfl)
  have h38 := @run_callFunc_extern Tryd.prog 114 _ rowImplements Tryd.func114 (by kernel_rfl) (by kernel_rfl) (by kernel_rfl) (by kernel_rfl)
  have h10 := @run_callFunc_extern Tryd.prog 76 _ ReflectliteType.typeOf Tryd.func76 (by kernel_rfl) (by kernel_rfl) (by kernel_rfl) (by kernel_rfl)
  have h35 := @run_callFunc_extern Tryd.prog 111 _ rowAssignable Tryd.func111 (by kernel_rfl) (by kernel_rfl) (by kernel_rfl) (by kernel_rfl)
  have mA := Tryd.mAssignable
  have f6 := Tryd.valueOfWW
  have f7 := Tryd.typeWW
  have mK := Tryd.mKind
  have mE := Tryd.mElem
  have mI := Tryd.mImplements
  have kP := Tryd.kindWW
  have kF := Tryd.kindEWW
  have eP := Tryd.elemWW
  have iF := Tryd.implementsWW
  have tO := Tryd.typeOfE
  have nA := Tryd.noAsE
  have nU := Tryd.noUnwrapE
  have nUs := Tryd.noUnwrapsE
  have aE := Tryd.assignableEWW
  have n8 := Tryd.isNilWW ⟨w.heap.size, 0, none⟩ t ((w.alloc (.cells #[.pointer (some t)] 85)).alloc (.cells #[.pointer (some ⟨1, 85, none⟩), .pointer (some ⟨w.heap.size, 0, none⟩), .int .u64 150] 101)) (by simp)
  have hg2 : ((w.alloc (.cells #[.pointer (some t)] 85)).alloc (.cells #[.pointer (some ⟨1, 85, none⟩), .pointer (some ⟨w.heap.size, 0, none⟩), .int .u64 150] 101)).cell? ⟨0, 0, none⟩ = some (.iface 116 (.agg #[.pointer (some ⟨1, 31, none⟩)])) := (hG.alloc _).alloc _
  go_enter Tryd.func58, Tryd.ntmps58
  go_wp2
  refine wp_loop_rounds 1 ?_
  rw [rounds_succ]
  go_wp2
  go_ret
  exact ⟨rfl, ((((Below.refl _ _).alloc (Nat.le_refl _) _).alloc (by simp) _).alloc (by simp; omega) _)⟩

theorem Tryd.assignableR (w : World) : (rowAssignable #[.agg #[.pointer (some ⟨1, 87, none⟩)], .iface 116 (.agg #[.pointer (some ⟨1, 78, none⟩)])]).run Tryd.prog w = .ok (.bool false) w := by kernel_rfl

set_option maxRecDepth 100000 in
set_option maxHeartbeats 4000000 in
theorem as_refused (m : Int) (t : Addr) (w : World) (hG : HG w) :
    Calls Tryd.prog 58 #[.iface 87 (.agg #[.iface 65 (.int .i64 m)]), .iface 81 (.pointer (some t))] w fun e w' => e = .returned (.bool false) ∧ Below w.heap.size w w' := by
  have h6 := @run_callFunc_extern Tryd.prog 69 _ rowValueOf Tryd.func69 (by kernel_rfl) (by kernel_rfl) (by kernel_rfl) (by kernel_rfl)
  have h7 := @run_callFunc_extern Tryd.prog 70 _ rowType Tryd.func70 (by kernel_rfl) (by kernel_rfl) (by kernel_rfl) (by kernel_rfl)
  have h8 := @run_callFunc_extern Tryd.prog 71 _ rowIsNil Tryd.func71 (by kernel_rfl) (by kernel_rfl) (by kernel_rfl) (by kernel_rfl)
  have h27 := @run_callFunc_extern Tryd.prog 96 _ rowKind Tryd.func96 (by kernel_rfl) (by kernel_rfl) (by kernel_rfl) (by kernel_rfl)
  have h37 := @run_callFunc_extern Tryd.prog 113 _ rowElemT Tryd.func113 (by kernel_rfl) (by kernel_rfl) (by kernel_rfl) (by kernel_rfl)
  have h38 := @run_callFunc_extern Tryd.prog 114 _ rowImplements Tryd.func114 (by kernel_rfl) (by kernel_rfl) (by kernel_rfl) (by kernel_rfl)
  have h10 := @run_callFunc_extern Tryd.prog 76 _ ReflectliteType.typeOf Tryd.func76 (by kernel_rfl) (by kernel_rfl) (by kernel_rfl) (by kernel_rfl)
  have h35 := @run_callFunc_extern Tryd.prog 111 _ rowAssignable Tryd.func111 (by kernel_rfl) (by kernel_rfl) (by kernel_rfl) (by kernel_rfl)
  have mA := Tryd.mAssignable
  have f6 := Tryd.valueOfPF
  have f7 := Tryd.typePF
  have mK := Tryd.mKind
  have mE := Tryd.mElem
  have mI := Tryd.mImplements
  have kP := Tryd.kindPF
  have kF := Tryd.kindEPF
  have eP := Tryd.elemPF
  have iF := Tryd.implementsPF
  have tO := Tryd.typeOfE
  have nA := Tryd.noAsE
  have nU := Tryd.noUnwrapE
  have nUs := Tryd.noUnwrapsE
  have aE := Tryd.assignableEPF
  have aR := Tryd.assignableR
  have tR := Tryd.typeOfR
  have nAR := Tryd.noAsR
  have hUR := Tryd.hasUnwrapR
  have mU := Tryd.mUnwrapR
  have n8 := Tryd.isNilPF ⟨w.heap.size, 0, none⟩ t ((w.alloc (.cells #[.pointer (some t)] 81)).alloc (.cells #[.pointer (some ⟨1, 81, none⟩), .pointer (some ⟨w.heap.size, 0, none⟩), .int .u64 150] 101)) (by simp)
  have hg2 : ((w.alloc (.cells #[.pointer (some t)] 81)).alloc (.cells #[.pointer (some ⟨1, 81, none⟩), .pointer (some ⟨w.heap.size, 0, none⟩), .int .u64 150] 101)).cell? ⟨0, 0, none⟩ = some (.iface 116 (.agg #[.pointer (some ⟨1, 31, none⟩)])) := (hG.alloc _).alloc _
  go_enter Tryd.func58, Tryd.ntmps58
  go_wp2
  refine wp_loop_rounds 2 ?_
  rw [rounds_succ]
  go_wp2
  rw [rounds_succ]
  go_wp2
  go_ret
  exact ⟨rfl, ((((Below.refl _ _).alloc (Nat.le_refl _) _).alloc (by simp) _).alloc (by simp; omega) _).alloc (by simp; omega) _⟩

set_option maxRecDepth 100000 in
set_option maxHeartbeats 4000000 in
theorem as_hit_w (e : Addr) (t : Nat) (o0 : Value) (w : World) (hG : HG w) (ht : Blk w t 82 #[o0]) :
    Calls Tryd.prog 58 #[.iface 82 (.pointer (some e)), .iface 85 (.pointer (some ⟨t, 0, none⟩))] w fun ev w' => ev = .returned (.bool true) ∧ w' = ((((w.alloc (.cells #[.pointer (some ⟨t, 0, none⟩)] 85)).alloc (.cells #[.pointer (some ⟨1, 85, none⟩), .pointer (some ⟨w.heap.size, 0, none⟩), .int .u64 150] 101)).alloc (.cells #[.pointer (some ⟨1, 85, none⟩), .pointer (some ⟨w.heap.size, 0, none⟩), .int .u64 150] 101)).alloc (.cells #[.pointer (some e)] 82)).setCell ⟨t, 0, none⟩ (.pointer (some e)) := by
  have h6 := @run_callFunc_extern Tryd.prog 69 _ rowValueOf Tryd.func69 (by kernel_rfl) (by kernel_rfl) (by kernel_rfl) (by kernel_rfl)
  have h7 := @run_callFunc_extern Tryd.prog 70 _ rowType Tryd.func70 (by kernel_rfl) (by kernel_rfl) (by kernel_rfl) (by kernel_rfl)
  have h8 := @run_callFunc_extern Tryd.prog 71 _ rowIsNil Tryd.func71 (by kernel_rfl) (by kernel_rfl) (by kernel_rfl) (by kernel_rfl)
  have h27 := @run_callFunc_extern Tryd.prog 96 _ rowKind Tryd.func96 (by kernel_rfl) (by kernel_rfl) (by kernel_rfl) (by kernel_rfl)
  have h37 := @run_callFunc_extern Tryd.prog 113 _ rowElemT Tryd.func113 (by kernel_rfl) (by kernel_rfl) (by kernel_rfl) (by kernel_rfl)
  have h38 := @run_callFunc_extern Tryd.prog 114 _ rowImplements Tryd.func114 (by kernel_rfl) (by kernel_rfl) (by kernel_rfl) (by kernel_rfl)
  have h10 := @run_callFunc_extern Tryd.prog 76 _ ReflectliteType.typeOf Tryd.func76 (by kernel_rfl) (by kernel_rfl) (by kernel_rfl) (by kernel_rfl)
  have h35 := @run_callFunc_extern Tryd.prog 111 _ rowAssignable Tryd.func111 (by kernel_rfl) (by kernel_rfl) (by kernel_rfl) (by kernel_rfl)
  have h11 := @run_callFunc_extern Tryd.prog 78 _ rowElemV Tryd.func78 (by kernel_rfl) (by kernel_rfl) (by kernel_rfl) (by kernel_rfl)
  have h12 := @run_callFunc_extern Tryd.prog 79 _ rowSet Tryd.func79 (by kernel_rfl) (by kernel_rfl) (by kernel_rfl) (by kernel_rfl)
  have mA := Tryd.mAssignable
  have f6 := Tryd.valueOfWW
  have f7 := Tryd.typeWW
  have mK := Tryd.mKind
  have mE := Tryd.mElem
  have mI := Tryd.mImplements
  have kP := Tryd.kindWW
  have kF := Tryd.kindEWW
  have eP := Tryd.elemWW
  have iF := Tryd.implementsWW
  have tO := Tryd.typeOfHitWW
  have aH := Tryd.assignableHitWW
  have vH := Tryd.valueOfHitWW
  have n8 := Tryd.isNilWW ⟨w.heap.size, 0, none⟩ ⟨t, 0, none⟩ ((w.alloc (.cells #[.pointer (some ⟨t, 0, none⟩)] 85)).alloc (.cells #[.pointer (some ⟨1, 85, none⟩), .pointer (some ⟨w.heap.size, 0, none⟩), .int .u64 150] 101)) (by simp)
  have hg2 : ((w.alloc (.cells #[.pointer (some ⟨t, 0, none⟩)] 85)).alloc (.cells #[.pointer (some ⟨1, 85, none⟩), .pointer (some ⟨w.heap.size, 0, none⟩), .int .u64 150] 101)).cell? ⟨0, 0, none⟩ = some (.iface 116 (.agg #[.pointer (some ⟨1, 31, none⟩)])) := (hG.alloc _).alloc _
  have el := Tryd.elemVWW ⟨w.heap.size, 0, none⟩ ⟨t, 0, none⟩ (((w.alloc (.cells #[.pointer (some ⟨t, 0, none⟩)] 85)).alloc (.cells #[.pointer (some ⟨1, 85, none⟩), .pointer (some ⟨w.heap.size, 0, none⟩), .int .u64 150] 101)).alloc (.cells #[.pointer (some ⟨1, 85, none⟩), .pointer (some ⟨w.heap.size, 0, none⟩), .int .u64 150] 101)) (by rw [World.cell?_alloc_lt _ _ ⟨w.heap.size, 0, none⟩ (by simp; omega)]; simp)
  have hbn : Blk ((((w.alloc (.cells #[.pointer (some ⟨t, 0, none⟩)] 85)).alloc (.cells #[.pointer (some ⟨1, 85, none⟩), .pointer (some ⟨w.heap.size, 0, none⟩), .int .u64 150] 101)).alloc (.cells #[.pointer (some ⟨1, 85, none⟩), .pointer (some ⟨w.heap.size, 0, none⟩), .int .u64 150] 101)).alloc (.cells #[.pointer (some e)] 82)) (w.heap.size + 1 + 1 + 1) 82 #[.pointer (some e)] := by
    have h := Blk.new (((w.alloc (.cells #[.pointer (some ⟨t, 0, none⟩)] 85)).alloc (.cells #[.pointer (some ⟨1, 85, none⟩), .pointer (some ⟨w.heap.size, 0, none⟩), .int .u64 150] 101)).alloc (.cells #[.pointer (some ⟨1, 85, none⟩), .pointer (some ⟨w.heap.size, 0, none⟩), .int .u64 150] 101)) 82 #[.pointer (some e)]
    simpa using h
  have st := Tryd.setWW t (w.heap.size + 1 + 1 + 1) e o0 ((((w.alloc (.cells #[.pointer (some ⟨t, 0, none⟩)] 85)).alloc (.cells #[.pointer (some ⟨1, 85, none⟩), .pointer (some ⟨w.heap.size, 0, none⟩), .int .u64 150] 101)).alloc (.cells #[.pointer (some ⟨1, 85, none⟩), .pointer (some ⟨w.heap.size, 0, none⟩), .int .u64 150] 101)).alloc (.cells #[.pointer (some e)] 82)) hbn ((((ht.alloc _).alloc _).alloc _).alloc _)
  clear hbn ht
  go_enter Tryd.func58, Tryd.ntmps58
  go_wp2
  refine wp_loop_rounds 1 ?_
  rw [rounds_succ]
  go_wp2
  go_ret
  exact ⟨rfl, rfl⟩

set_option maxRecDepth 100000 in
set_option maxHeartbeats 4000000 in
theorem as_hit_f (no li pl : Int) (t : Nat) (o0 o1 o2 : Value) (w : World) (hG : HG w) (ht : Blk w t 78 #[o0, o1, o2]) :
    Calls Tryd.prog 58 #[.iface 78 (.agg #[.int .i64 no, .int .i64 li, .int .i64 pl]), .iface 81 (.pointer (some ⟨t, 0, none⟩))] w fun ev w' => ev = .returned (.bool true) ∧ w' = ((((w.alloc (.cells #[.pointer (some ⟨t, 0, none⟩)] 81)).alloc (.cells #[.pointer (some ⟨1, 81, none⟩), .pointer (some ⟨w.heap.size, 0, none⟩), .int .u64 150] 101)).alloc (.cells #[.pointer (some ⟨1, 81, none⟩), .pointer (some ⟨w.heap.size, 0, none⟩), .int .u64 150] 101)).alloc (.cells #[.int .i64 no, .int .i64 li, .int .i64 pl] 78)).setCells t 0 [.int .i64 no, .int .i64 li, .int .i64 pl] := by
  have h6 := @run_callFunc_extern Tryd.prog 69 _ rowValueOf Tryd.func69 (by kernel_rfl) (by kernel_rfl) (by kernel_rfl) (by kernel_rfl)
  have h7 := @run_callFunc_extern Tryd.prog 70 _ rowType Tryd.func70 (by kernel_rfl) (by kernel_rfl) (by kernel_rfl) (by kernel_rfl)
  have h8 := @run_callFunc_extern Tryd.prog 71 _ rowIsNil Tryd.func71 (by kernel_rfl) (by kernel_rfl) (by kernel_rfl) (by kernel_rfl)
  have h27 := @run_callFunc_extern Tryd.prog 96 _ rowKind Tryd.func96 (by kernel_rfl) (by kernel_rfl) (by kernel_rfl) (by kernel_rfl)
  have h37 := @run_callFunc_extern Tryd.prog 113 _ rowElemT Tryd.func113 (by kernel_rfl) (by kernel_rfl) (by kernel_rfl) (by kernel_rfl)
  have h38 := @run_callFunc_extern Tryd.prog 114 _ rowImplements Tryd.func114 (by kernel_rfl) (by kernel_rfl) (by kernel_rfl) (by kernel_rfl)
  have h10 := @run_callFunc_extern Tryd.prog 76 _ ReflectliteType.typeOf Tryd.func76 (by kernel_rfl) (by kernel_rfl) (by kernel_rfl) (by kernel_rfl)
  have h35 := @run_callFunc_extern Tryd.prog 111 _ rowAssignable Tryd.func111 (by kernel_rfl) (by kernel_rfl) (by kernel_rfl) (by kernel_rfl)
  have h11 := @run_callFunc_extern Tryd.prog 78 _ rowElemV Tryd.func78 (by kernel_rfl) (by kernel_rfl) (by kernel_rfl) (by kernel_rfl)
  have h12 := @run_callFunc_extern Tryd.prog 79 _ rowSet Tryd.func79 (by kernel_rfl) (by kernel_rfl) (by kernel_rfl) (by kernel_rfl)
  have mA := Tryd.mAssignable
  have f6 := Tryd.valueOfPF
  have f7 := Tryd.typePF
  have mK := Tryd.mKind
  have mE := Tryd.mElem
  have mI := Tryd.mImplements
  have kP := Tryd.kindPF
  have kF := Tryd.kindEPF
  have eP := Tryd.elemPF
  have iF := Tryd.implementsPF
  have tO := Tryd.typeOfHitPF
  have aH := Tryd.assignableHitPF
  have vH := Tryd.valueOfHitPF
  have n8 := Tryd.isNilPF ⟨w.heap.size, 0, none⟩ ⟨t, 0, none⟩ ((w.alloc (.cells #[.pointer (some ⟨t, 0, none⟩)] 81)).alloc (.cells #[.pointer (some ⟨1, 81, none⟩), .pointer (some ⟨w.heap.size, 0, none⟩), .int .u64 150] 101)) (by simp)
  have hg2 : ((w.alloc (.cells #[.pointer (some ⟨t, 0, none⟩)] 81)).alloc (.cells #[.pointer (some ⟨1, 81, none⟩), .pointer (some ⟨w.heap.size, 0, none⟩), .int .u64 150] 101)).cell? ⟨0, 0, none⟩ = some (.iface 116 (.agg #[.pointer (some ⟨1, 31, none⟩)])) := (hG.alloc _).alloc _
  have el := Tryd.elemVPF ⟨w.heap.size, 0, none⟩ ⟨t, 0, none⟩ (((w.alloc (.cells #[.pointer (some ⟨t, 0, none⟩)] 81)).alloc (.cells #[.pointer (some ⟨1, 81, none⟩), .pointer (some ⟨w.heap.size, 0, none⟩), .int .u64 150] 101)).alloc (.cells #[.pointer (some ⟨1, 81, none⟩), .pointer (some ⟨w.heap.size, 0, none⟩), .int .u64 150] 101)) (by rw [World.cell?_alloc_lt _ _ ⟨w.heap.size, 0, none⟩ (by simp; omega)]; simp)
  have hbn : Blk ((((w.alloc (.cells #[.pointer (some ⟨t, 0, none⟩)] 81)).alloc (.cells #[.pointer (some ⟨1, 81, none⟩), .pointer (some ⟨w.heap.size, 0, none⟩), .int .u64 150] 101)).alloc (.cells #[.pointer (some ⟨1, 81, none⟩), .pointer (some ⟨w.heap.size, 0, none⟩), .int .u64 150] 101)).alloc (.cells #[.int .i64 no, .int .i64 li, .int .i64 pl] 78)) (w.heap.size + 1 + 1 + 1) 78 #[.int .i64 no, .int .i64 li, .int .i64 pl] := by
    have h := Blk.new (((w.alloc (.cells #[.pointer (some ⟨t, 0, none⟩)] 81)).alloc (.cells #[.pointer (some ⟨1, 81, none⟩), .pointer (some ⟨w.heap.size, 0, none⟩), .int .u64 150] 101)).alloc (.cells #[.pointer (some ⟨1, 81, none⟩), .pointer (some ⟨w.heap.size, 0, none⟩), .int .u64 150] 101)) 78 #[.int .i64 no, .int .i64 li, .int .i64 pl]
    simpa using h
  have st := Tryd.setPF t (w.heap.size + 1 + 1 + 1) no li pl o0 o1 o2 ((((w.alloc (.cells #[.pointer (some ⟨t, 0, none⟩)] 81)).alloc (.cells #[.pointer (some ⟨1, 81, none⟩), .pointer (some ⟨w.heap.size, 0, none⟩), .int .u64 150] 101)).alloc (.cells #[.pointer (some ⟨1, 81, none⟩), .pointer (some ⟨w.heap.size, 0, none⟩), .int .u64 150] 101)).alloc (.cells #[.int .i64 no, .int .i64 li, .int .i64 pl] 78)) hbn ((((ht.alloc _).alloc _).alloc _).alloc _)
  clear hbn ht
  go_enter Tryd.func58, Tryd.ntmps58
  go_wp2
  refine wp_loop_rounds 1 ?_
  rw [rounds_succ]
  go_wp2
  go_ret
  exact ⟨rfl, rfl⟩
end Go.Proofs.YtcgcgekefhhjhaaDoor
