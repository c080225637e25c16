/- Store: the hash of a key. -/
import Derived.Test.YtflkddllofeiaaaGreatDoorList
import Derived.Test.YtflkddllofeiaaaGreatDoorKit0
import Derived.Test.YtflkddllofeiaaaGreatDoorClass
import Derived.Laws.Bits64b
namespace Go.Proofs.YtflkddllofeiaaaGreatDoor
set_option linter.unusedSimpArgs false
set_option linter.unusedVariables false
open Go.RowKit

theorem infoU64 : (Tryz.prog.info? 81).map (fun i => (i.zero, i.size, i.bytes)) = some (some (.int .u64 0), 1, 8) := by kernel_rfl
set_option maxRecDepth 100000 in
theorem run_index2_0 (w : World) (a b : Int) : (Instr.index 122 (.agg #[.int .u64 a, .int .u64 b]) (.int .i64 0)).run Tryz.prog w = .ok (.int .u64 a) w := by
  obtain ⟨j, hj, _, hs, _⟩ := info_parts infoU64
  simp [Instr.index, run_underlying Tryz.underlying122, asIntOf, go_sem, sizeOf, typeInfo, hj, hs]
set_option maxRecDepth 100000 in
theorem run_index2_1 (w : World) (a b : Int) : (Instr.index 122 (.agg #[.int .u64 a, .int .u64 b]) (.int .i64 1)).run Tryz.prog w = .ok (.int .u64 b) w := by
  obtain ⟨j, hj, _, hs, _⟩ := info_parts infoU64
  simp [Instr.index, run_underlying Tryz.underlying122, asIntOf, go_sem, sizeOf, typeInfo, hj, hs]
attribute [local go_sem] run_index2_0 run_index2_1
/-- One byte more. -/
def hstep (n : Int) (j : Nat) (z : Int) : Int := IntKind.u64.wrap (bits BinOp.xor IntKind.u64 z (n / 2 ^ (56 - 8 * j) % 256) * 1099511628211)
def hto (n z : Int) : Nat → Int
  | 0 => z
  | j + 1 => hstep n j (hto n z j)
/-- What the hash of a key is. -/
def hashV (k : Key) : Int := hto (IntKind.u64.wrap k.ast) (hto (IntKind.u64.wrap k.acc) 14695981039346656037 8) 8
theorem wrap_u64 (x : Int) : 0 ≤ IntKind.u64.wrap x ∧ IntKind.u64.wrap x < 18446744073709551616 := by
  simp only [IntKind.wrap, IntKind.bits, IntKind.signed]
  simp
  omega
theorem hto_pos (n z : Int) (j : Nat) (hj : 0 < j) : 0 ≤ hto n z j ∧ hto n z j < 18446744073709551616 := by
  cases j with
  | zero => omega
  | succ j => exact wrap_u64 _
theorem hashV_pos (k : Key) : 0 ≤ hashV k ∧ hashV k < 18446744073709551616 := hto_pos _ _ 8 (by omega)
theorem and_255 (n : Int) (h0 : 0 ≤ n) (h1 : n < 18446744073709551616) (s : Nat) : bits BinOp.and IntKind.u64 (n / 2 ^ s) 255 = n / 2 ^ s % 256 := by
  have h2 : 0 ≤ n / 2 ^ s := Int.ediv_nonneg h0 (by exact Int.le_of_lt (Int.pow_pos (by omega)))
  have h3 : n / 2 ^ s < 18446744073709551616 := Int.lt_of_le_of_lt (Int.ediv_le_self _ h0) h1
  obtain ⟨m, hm⟩ := Int.eq_ofNat_of_zero_le h2
  rw [hm] at h3 ⊢
  have h4 := bits_and_u64_nat m 255 (by omega) (by omega)
  have h5 : m &&& 255 = m % 256 := Nat.and_two_pow_sub_one_eq_mod m 8
  rw [h5] at h4
  simpa using h4
set_option maxRecDepth 100000 in
set_option maxHeartbeats 1000000 in
theorem hash_calls (k : Key) (w : World) : Calls Tryz.prog 50 #[.agg #[.int .i64 k.acc, .int .i64 k.ast]] w fun e w' => e = .returned (.int .u64 (hashV k)) ∧ Below w.heap.size w w' := by
  have ha := wrap_u64 k.acc
  have hb := wrap_u64 k.ast
  obtain ⟨na, hna⟩ : ∃ n, IntKind.u64.wrap k.acc = n := ⟨_, rfl⟩
  obtain ⟨nb, hnb⟩ : ∃ n, IntKind.u64.wrap k.ast = n := ⟨_, rfl⟩
  obtain ⟨a1, ha1⟩ : ∃ n, hto na 14695981039346656037 8 = n := ⟨_, rfl⟩
  obtain ⟨a2, ha2⟩ : ∃ n, hto nb a1 8 = n := ⟨_, rfl⟩
  have hv : hashV k = a2 := by
    unfold hashV
    rw [hna, hnb, ha1, ha2]
  rw [hv]
  have HA1 := Lib.hid ha1
  have HA2 := Lib.hid ha2
  clear hv ha1 ha2
  rw [hna] at ha
  rw [hnb] at hb
  have HA := Lib.hid ha
  have HB := Lib.hid hb
  clear ha hb
  go_enter Tryz.func50, Tryz.ntmps50
  go_wp2_with (fail)
  go_loop [3, 14] (fun h i => ∃ j : Int, (0 ≤ j ∧ j ≤ 2) ∧ i = .int .i64 j ∧ h = .int .u64 (if j = 0 then 14695981039346656037 else if j = 1 then a1 else a2)) (fun _ i => 2 - (intOf i).toNat)
  case atStart => exact ⟨0, by omega, rfl, rfl⟩
  case round =>
    obtain ⟨j, hj, rfl, rfl⟩ := hrel
    obtain rfl | rfl | rfl : j = 0 ∨ j = 1 ∨ j = 2 := by omega
    · simp only [if_true]
      go_wp2_with (fail)
      go_loop [3, 6] (fun h i => ∃ (m : Nat) (j : Int), m ≤ 8 ∧ j = 56 - 8 * m ∧ i = .int .i64 j ∧ h = .int .u64 (hto na 14695981039346656037 m)) (fun _ i => (intOf i + 8).toNat)
      case atStart => exact ⟨0, 56, by omega, by omega, rfl, rfl⟩
      case round =>
        obtain ⟨m, j, hm, hj, rfl, rfl⟩ := hrel
        by_cases hl : m < 8
        · have e1 := and_255 na HA.out.1 HA.out.2 (56 - 8 * m)
          have HJ := Lib.hid hj
          have hj0 : 0 ≤ j ∧ j ≤ 56 := by omega
          have HE : Hid (j.toNat = 56 - 8 * m) := by show _ = _; omega
          have HE1 := Lib.hid e1
          clear hj e1
          go_wp2_with (fail)
          go_round
          case rel => exact ⟨m + 1, j - 8, by omega, by have := HJ.out; omega, rfl, by rw [HE.out, HE1.out]; rfl⟩
          case measure => simp [intOf]; omega
        · obtain rfl : m = 8 := by omega
          have hj2 : j = -8 := by omega
          subst hj2
          rw [HA1.out]
          clear hj
          go_wp2_with (fail)
          go_round
          case rel => exact ⟨1, by omega, rfl, rfl⟩
          case measure => simp [intOf]
    · rw [if_neg (by omega), if_pos rfl]
      go_wp2_with (fail)
      go_loop [3, 6] (fun h i => ∃ (m : Nat) (j : Int), m ≤ 8 ∧ j = 56 - 8 * m ∧ i = .int .i64 j ∧ h = .int .u64 (hto nb a1 m)) (fun _ i => (intOf i + 8).toNat)
      case atStart => exact ⟨0, 56, by omega, by omega, rfl, rfl⟩
      case round =>
        obtain ⟨m, j, hm, hj, rfl, rfl⟩ := hrel
        by_cases hl : m < 8
        · have e1 := and_255 nb HB.out.1 HB.out.2 (56 - 8 * m)
          have HJ := Lib.hid hj
          have hj0 : 0 ≤ j ∧ j ≤ 56 := by omega
          have HE : Hid (j.toNat = 56 - 8 * m) := by show _ = _; omega
          have HE1 := Lib.hid e1
          clear hj e1
          go_wp2_with (fail)
          go_round
          case rel => exact ⟨m + 1, j - 8, by omega, by have := HJ.out; omega, rfl, by rw [HE.out, HE1.out]; rfl⟩
          case measure => simp [intOf]; omega
        · obtain rfl : m = 8 := by omega
          have hj2 : j = -8 := by omega
          subst hj2
          rw [HA2.out]
          clear hj
          go_wp2_with (fail)
          go_round
          case rel => exact ⟨2, by omega, rfl, rfl⟩
          case measure => simp [intOf]
    · rw [if_neg (by omega), if_neg (by omega)]
      go_wp2
      go_ret
      exact ⟨rfl, (Below.refl _ _).alloc (Nat.le_refl _) _⟩
end Go.Proofs.YtflkddllofeiaaaGreatDoor
