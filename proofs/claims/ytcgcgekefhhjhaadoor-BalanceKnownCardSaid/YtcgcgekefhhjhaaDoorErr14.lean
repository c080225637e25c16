/- errors.Is, errors.As, custodykit.Num, Plain, Place, At by contracts: at api.Fault, balance's refused and *wrong (printed by gen_err14.py). -/
import Derived.Test.YtcgcgekefhhjhaaDoorPlain
import Derived.Deep.MidRow
namespace Go.Proofs.YtcgcgekefhhjhaaDoor
set_option linter.unusedSimpArgs false
set_option linter.unusedVariables false
open Go.RowKit Go.Extern.Stop Go.Stop Go.Extern

def faultV (no li pl : Int) : Value := .iface 78 (.agg #[.int .i64 no, .int .i64 li, .int .i64 pl])
def refusedV (m : Int) : Value := .iface 87 (.agg #[.iface 65 (.int .i64 m)])
theorem Tryd.noIsF (v : Value) (xT : TypeId) (w : World) : (Instr.typeAssert (.iface 78 v) xT 128 true).run Tryd.prog w = .ok (.tuple #[.nilIface, .bool false]) w := run_typeAssert_lacksB Tryd.underlying128 (by kernel_rfl) (by kernel_rfl) v xT w
theorem Tryd.noAsF (v : Value) (xT : TypeId) (w : World) : (Instr.typeAssert (.iface 78 v) xT 120 true).run Tryd.prog w = .ok (.tuple #[.nilIface, .bool false]) w := run_typeAssert_lacksB Tryd.underlying120 (by kernel_rfl) (by kernel_rfl) v xT w
theorem Tryd.hasUnwrapF (v : Value) (xT : TypeId) (w : World) : (Instr.typeAssert (.iface 78 v) xT 123 true).run Tryd.prog w = .ok (.tuple #[.iface 78 v, .bool true]) w := run_typeAssert_hasB Tryd.underlying123 (by kernel_rfl) v xT w
theorem Tryd.mUnwrapF (v : Value) (w : World) : (Go.method 262 78 v "Unwrap").run Tryd.prog w = .ok (101, v) w := by kernel_rfl
theorem Tryd.typeOfF (v : Value) (w : World) : (ReflectliteType.typeOf #[.iface 78 v]).run Tryd.prog w = .ok (.iface 116 (.agg #[.pointer (some ⟨1, 78, none⟩)])) w := by kernel_rfl
theorem Tryd.noIsR (v : Value) (xT : TypeId) (w : World) : (Instr.typeAssert (.iface 87 v) xT 128 true).run Tryd.prog w = .ok (.tuple #[.nilIface, .bool false]) w := run_typeAssert_lacksB Tryd.underlying128 (by kernel_rfl) (by kernel_rfl) v xT w
theorem Tryd.noAsR (v : Value) (xT : TypeId) (w : World) : (Instr.typeAssert (.iface 87 v) xT 120 true).run Tryd.prog w = .ok (.tuple #[.nilIface, .bool false]) w := run_typeAssert_lacksB Tryd.underlying120 (by kernel_rfl) (by kernel_rfl) v xT w
theorem Tryd.hasUnwrapR (v : Value) (xT : TypeId) (w : World) : (Instr.typeAssert (.iface 87 v) xT 123 true).run Tryd.prog w = .ok (.tuple #[.iface 87 v, .bool true]) w := run_typeAssert_hasB Tryd.underlying123 (by kernel_rfl) v xT w
theorem Tryd.mUnwrapR (v : Value) (w : World) : (Go.method 262 87 v "Unwrap").run Tryd.prog w = .ok (104, v) w := by kernel_rfl
theorem Tryd.typeOfR (v : Value) (w : World) : (ReflectliteType.typeOf #[.iface 87 v]).run Tryd.prog w = .ok (.iface 116 (.agg #[.pointer (some ⟨1, 87, none⟩)])) w := by kernel_rfl

set_option maxRecDepth 100000 in
set_option maxHeartbeats 4000000 in
theorem is_fault (no li pl : Int) (n : Int) (w : World) :
    Calls Tryd.prog 68 #[.iface 78 (.agg #[.int .i64 no, .int .i64 li, .int .i64 pl]), .iface 65 (.int .i64 n)] w fun e w' => e = .returned (.bool (no == n)) ∧ Below w.heap.size w w' := by
  obtain ⟨i, hi, hcmp⟩ := Option.map_eq_some_iff.1 Tryd.isComp
  have h8 := @run_callFunc_extern Tryd.prog 76 _ ReflectliteType.typeOf Tryd.func76 (by kernel_rfl) (by kernel_rfl) (by kernel_rfl) (by kernel_rfl)
  have h32 := @run_callFunc_extern Tryd.prog 112 _ rowComparable Tryd.func112 (by kernel_rfl) (by kernel_rfl) (by kernel_rfl) (by kernel_rfl)
  have tT := Tryd.typeOfE
  have cT := Tryd.isComparable
  have mR := Tryd.mComparable
  have nE := Tryd.noIsE
  have uE := Tryd.noUnwrapE
  have vE := Tryd.noUnwrapsE
  have nF := Tryd.noIsF
  have uF := Tryd.hasUnwrapF
  have mU := Tryd.mUnwrapF
  have heq := fun w => run_eql_iface_int (P := Tryd.prog) w no n Tryd.underlying31 Tryd.underlying65 hi hcmp
  have hty := fun v w => run_eql_iface_types (P := Tryd.prog) 78 65 v (.int .i64 n) Tryd.underlying31 (by decide) w
  have e : (no == n) = true ∨ (no == n) = false := by cases (no == n) <;> simp
  rcases e with e | e
  all_goals
    rw [e] at heq ⊢
    clear e
    go_enter Tryd.func68, Tryd.ntmps68
    go_wp2
    refine wp_loop_rounds 2 ?_
    rw [rounds_succ]
    go_wp2
    rw [rounds_succ]
    go_wp2
    go_ret
    exact ⟨rfl, (Below.refl _ _).alloc (Nat.le_refl _) _⟩

set_option maxRecDepth 100000 in
set_option maxHeartbeats 4000000 in
theorem is_refused (m : Int) (n : Int) (w : World) :
    Calls Tryd.prog 68 #[.iface 87 (.agg #[.iface 65 (.int .i64 m)]), .iface 65 (.int .i64 n)] w fun e w' => e = .returned (.bool (m == n)) ∧ Below w.heap.size w w' := by
  obtain ⟨i, hi, hcmp⟩ := Option.map_eq_some_iff.1 Tryd.isComp
  have h8 := @run_callFunc_extern Tryd.prog 76 _ ReflectliteType.typeOf Tryd.func76 (by kernel_rfl) (by kernel_rfl) (by kernel_rfl) (by kernel_rfl)
  have h32 := @run_callFunc_extern Tryd.prog 112 _ rowComparable Tryd.func112 (by kernel_rfl) (by kernel_rfl) (by kernel_rfl) (by kernel_rfl)
  have tT := Tryd.typeOfE
  have cT := Tryd.isComparable
  have mR := Tryd.mComparable
  have nE := Tryd.noIsE
  have uE := Tryd.noUnwrapE
  have vE := Tryd.noUnwrapsE
  have nF := Tryd.noIsR
  have uF := Tryd.hasUnwrapR
  have mU := Tryd.mUnwrapR
  have heq := fun w => run_eql_iface_int (P := Tryd.prog) w m n Tryd.underlying31 Tryd.underlying65 hi hcmp
  have hty := fun v w => run_eql_iface_types (P := Tryd.prog) 87 65 v (.int .i64 n) Tryd.underlying31 (by decide) w
  have e : (m == n) = true ∨ (m == n) = false := by cases (m == n) <;> simp
  rcases e with e | e
  all_goals
    rw [e] at heq ⊢
    clear e
    go_enter Tryd.func68, Tryd.ntmps68
    go_wp2
    refine wp_loop_rounds 2 ?_
    rw [rounds_succ]
    go_wp2
    rw [rounds_succ]
    go_wp2
    go_ret
    exact ⟨rfl, (Below.refl _ _).alloc (Nat.le_refl _) _⟩

set_option maxRecDepth 100000 in
set_option maxHeartbeats 2000000 in
theorem num_fault (m li pl : Int) (w : World) (hm1 : 1 ≤ m) (hm2 : m ≤ 24) : Calls Tryd.prog 57 #[.iface 78 (.agg #[.int .i64 m, .int .i64 li, .int .i64 pl])] w fun e w' => e = .returned (.int .i64 m) ∧ Below w.heap.size w w' := by
  have hm0 : ((m : Int) == 0) = false := by simp; omega
  go_enter Tryd.func57, Tryd.ntmps57
  go_wp2_with fail
  go_loopw [3, 4] (fun f n wr => ∃ k : Nat, 1 ≤ k ∧ k ≤ 25 ∧ n = .int .i64 k ∧ f = .int .i64 (numAt m k) ∧ Below w.heap.size w wr) (fun _ n _ => 25 - (intOf n).toNat)
  case atStart => exact ⟨1, by omega, by omega, rfl, (by simp [numAt]; omega), Below.refl _ _⟩
  case round =>
    obtain ⟨k, hk1, hk2, rfl, rfl, hB⟩ := hrel
    by_cases hlt : k < 25
    · have hle : decide ((k : Int) ≤ 24) = true := by simp; omega
      rcases Int.lt_trichotomy m k with h | h | h
      · have e1 : numAt m k = m := if_pos ⟨hm1, h⟩
        have e2 : numAt m (k + 1) = m := if_pos ⟨hm1, by omega⟩
        have hne : (m == (k : Int)) = false := by simp; omega
        rw [e1]
        have E2 := Lib.hid e2
        clear e1 e2
        go_wp2_with (go_at_call 68; refine (is_fault m li pl _ _).mono ?_; rintro e w' ⟨rfl, hb'⟩)
        go_roundw
        case rel => exact ⟨k + 1, by omega, by omega, by go_num, by rw [E2.out], hB.trans (hb'.mono hB.size)⟩
        case measure => simp [intOf]; omega
      · have e1 : numAt m k = 0 := if_neg (by omega)
        have e2 : numAt m (k + 1) = m := if_pos ⟨hm1, by omega⟩
        have hne : (m == (k : Int)) = true := by simp; omega
        rw [e1]
        have E2 := Lib.hid e2
        have Hmk := Lib.hid h
        clear e1 e2 h
        go_wp2_with (go_at_call 68; refine (is_fault m li pl _ _).mono ?_; rintro e w' ⟨rfl, hb'⟩)
        go_roundw
        case rel => exact ⟨k + 1, by omega, by omega, by go_num, by rw [E2.out, Hmk.out], hB.trans (hb'.mono hB.size)⟩
        case measure => simp [intOf]; omega
      · have e1 : numAt m k = 0 := if_neg (by omega)
        have e2 : numAt m (k + 1) = 0 := if_neg (by omega)
        have hne : (m == (k : Int)) = false := by simp; omega
        rw [e1]
        have E2 := Lib.hid e2
        clear e1 e2
        go_wp2_with (go_at_call 68; refine (is_fault m li pl _ _).mono ?_; rintro e w' ⟨rfl, hb'⟩)
        go_roundw
        case rel => exact ⟨k + 1, by omega, by omega, by go_num, by rw [E2.out], hB.trans (hb'.mono hB.size)⟩
        case measure => simp [intOf]; omega
    · obtain rfl : k = 25 := by omega
      have e1 : numAt m 25 = m := if_pos ⟨hm1, by omega⟩
      rw [e1]
      clear e1
      go_wp2_with (go_at_call 68; refine (is_fault m li pl _ _).mono ?_; rintro e w' ⟨rfl, hb'⟩)
      go_ret
      exact ⟨rfl, hB.trans (hb'.mono hB.size)⟩

set_option maxRecDepth 100000 in
set_option maxHeartbeats 2000000 in
theorem num_refused (m : Int) (w : World) (hm1 : 1 ≤ m) (hm2 : m ≤ 24) : Calls Tryd.prog 57 #[.iface 87 (.agg #[.iface 65 (.int .i64 m)])] w fun e w' => e = .returned (.int .i64 m) ∧ Below w.heap.size w w' := by
  have hm0 : ((m : Int) == 0) = false := by simp; omega
  go_enter Tryd.func57, Tryd.ntmps57
  go_wp2_with fail
  go_loopw [3, 4] (fun f n wr => ∃ k : Nat, 1 ≤ k ∧ k ≤ 25 ∧ n = .int .i64 k ∧ f = .int .i64 (numAt m k) ∧ Below w.heap.size w wr) (fun _ n _ => 25 - (intOf n).toNat)
  case atStart => exact ⟨1, by omega, by omega, rfl, (by simp [numAt]; omega), Below.refl _ _⟩
  case round =>
    obtain ⟨k, hk1, hk2, rfl, rfl, hB⟩ := hrel
    by_cases hlt : k < 25
    · have hle : decide ((k : Int) ≤ 24) = true := by simp; omega
      rcases Int.lt_trichotomy m k with h | h | h
      · have e1 : numAt m k = m := if_pos ⟨hm1, h⟩
        have e2 : numAt m (k + 1) = m := if_pos ⟨hm1, by omega⟩
        have hne : (m == (k : Int)) = false := by simp; omega
        rw [e1]
        have E2 := Lib.hid e2
        clear e1 e2
        go_wp2_with (go_at_call 68; refine (is_refused m _ _).mono ?_; rintro e w' ⟨rfl, hb'⟩)
        go_roundw
        case rel => exact ⟨k + 1, by omega, by omega, by go_num, by rw [E2.out], hB.trans (hb'.mono hB.size)⟩
        case measure => simp [intOf]; omega
      · have e1 : numAt m k = 0 := if_neg (by omega)
        have e2 : numAt m (k + 1) = m := if_pos ⟨hm1, by omega⟩
        have hne : (m == (k : Int)) = true := by simp; omega
        rw [e1]
        have E2 := Lib.hid e2
        have Hmk := Lib.hid h
        clear e1 e2 h
        go_wp2_with (go_at_call 68; refine (is_refused m _ _).mono ?_; rintro e w' ⟨rfl, hb'⟩)
        go_roundw
        case rel => exact ⟨k + 1, by omega, by omega, by go_num, by rw [E2.out, Hmk.out], hB.trans (hb'.mono hB.size)⟩
        case measure => simp [intOf]; omega
      · have e1 : numAt m k = 0 := if_neg (by omega)
        have e2 : numAt m (k + 1) = 0 := if_neg (by omega)
        have hne : (m == (k : Int)) = false := by simp; omega
        rw [e1]
        have E2 := Lib.hid e2
        clear e1 e2
        go_wp2_with (go_at_call 68; refine (is_refused m _ _).mono ?_; rintro e w' ⟨rfl, hb'⟩)
        go_roundw
        case rel => exact ⟨k + 1, by omega, by omega, by go_num, by rw [E2.out], hB.trans (hb'.mono hB.size)⟩
        case measure => simp [intOf]; omega
    · obtain rfl : k = 25 := by omega
      have e1 : numAt m 25 = m := if_pos ⟨hm1, by omega⟩
      rw [e1]
      clear e1
      go_wp2_with (go_at_call 68; refine (is_refused m _ _).mono ?_; rintro e w' ⟨rfl, hb'⟩)
      go_ret
      exact ⟨rfl, hB.trans (hb'.mono hB.size)⟩
end Go.Proofs.YtcgcgekefhhjhaaDoor
