/- custodylaw10's told and step8 by contracts. -/
import Derived.Test.YtmljiegeingpeaaDoorChainI
import Derived.Test.YtmljiegeingpeaaDoorChainT
import Derived.Laws.BytesArg
namespace Go.Proofs.YtmljiegeingpeaaDoor
set_option linter.unusedSimpArgs false
set_option linter.unusedVariables false
open Go.RowKit

/-- A number's eight bytes. -/
def toldX (i : Nat) : List Int := [(i : Int) % 256, (i : Int) / 256 % 256, (i : Int) / 65536 % 256, (i : Int) / 16777216 % 256, (i : Int) / 4294967296 % 256, (i : Int) / 1099511627776, (i : Int) / 281474976710656, (i : Int) / 72057594037927936]
def toldB (i : Nat) : ByteArray := strOfNums (toldX i)
theorem toldB_size (i : Nat) : (toldB i).size = 8 := rfl
theorem u8_nat (n : Nat) (h : n < 256) : (UInt8.ofNat n).toNat = n := by simp; omega
theorem toldB_at {i : Nat} (hi : i ≤ 5864062014805) {m : Nat} (hm : m < (toldB i).size) : ((toldB i)[m]'hm).toNat = i / 256 ^ m % 256 := by
  have hm8 : m < 8 := hm
  match m, hm8 with
  | 0, _ => show (UInt8.ofNat ((i : Int) % 256).toNat).toNat = _; rw [u8_nat _ (by omega)]; omega
  | 1, _ => show (UInt8.ofNat ((i : Int) / 256 % 256).toNat).toNat = _; rw [u8_nat _ (by omega)]; omega
  | 2, _ => show (UInt8.ofNat ((i : Int) / 65536 % 256).toNat).toNat = _; rw [u8_nat _ (by omega)]; omega
  | 3, _ => show (UInt8.ofNat ((i : Int) / 16777216 % 256).toNat).toNat = _; rw [u8_nat _ (by omega)]; omega
  | 4, _ => show (UInt8.ofNat ((i : Int) / 4294967296 % 256).toNat).toNat = _; rw [u8_nat _ (by omega)]; omega
  | 5, _ => show (UInt8.ofNat ((i : Int) / 1099511627776).toNat).toNat = _; rw [u8_nat _ (by omega)]; omega
  | 6, _ => show (UInt8.ofNat ((i : Int) / 281474976710656).toNat).toNat = _; rw [u8_nat _ (by omega)]; omega
  | 7, _ => show (UInt8.ofNat ((i : Int) / 72057594037927936).toNat).toNat = _; rw [u8_nat _ (by omega)]; omega

set_option maxRecDepth 100000 in
set_option maxHeartbeats 4000000 in
theorem told_calls (i : Nat) (w : World) (hi : i ≤ 5864062014805) : Calls Tryd.prog 16 #[.int .i64 i] w fun e w' => e = .returned (.string (toldB i)) ∧ Below w.heap.size w w' := by
  obtain ⟨gb, hgb⟩ : ∃ g, w.heap.size = g := ⟨_, rfl⟩
  obtain ⟨W1, hW1⟩ : ∃ X, w.alloc (.cells #[.int .u8 ((i : Int) % 256), .int .u8 ((i : Int) / 256 % 256), .int .u8 ((i : Int) / 65536 % 256), .int .u8 ((i : Int) / 16777216 % 256), .int .u8 ((i : Int) / 4294967296 % 256), .int .u8 ((i : Int) / 1099511627776), .int .u8 ((i : Int) / 281474976710656), .int .u8 ((i : Int) / 72057594037927936)] 5) = X := ⟨_, rfl⟩
  have hb1 : Below w.heap.size w W1 := hW1 ▸ (Below.refl _ _).alloc (Nat.le_refl _) _
  have hv : Blk W1 gb 5 #[.int .u8 ((i : Int) % 256), .int .u8 ((i : Int) / 256 % 256), .int .u8 ((i : Int) / 65536 % 256), .int .u8 ((i : Int) / 16777216 % 256), .int .u8 ((i : Int) / 4294967296 % 256), .int .u8 ((i : Int) / 1099511627776), .int .u8 ((i : Int) / 281474976710656), .int .u8 ((i : Int) / 72057594037927936)] := by rw [← hW1]; exact hgb ▸ Blk.new _ _ _
  have hcv := run_convert_bytes_arg (P := Tryd.prog) W1 88 5 Tryd.underlying88 Tryd.underlying5 gb 0 8 8 (toldX i) rfl (fun j hj => by
    rw [hv.cell]
    match j, hj with
    | 0, _ => rfl
    | 1, _ => rfl
    | 2, _ => rfl
    | 3, _ => rfl
    | 4, _ => rfl
    | 5, _ => rfl
    | 6, _ => rfl
    | 7, _ => rfl) 9 Tryd.underlying9
  have HB := Lib.hid hb1
  clear hb1 hv
  go_enter Tryd.func16, Tryd.ntmps16
  go_wp2_with (fail)
  go_ret
  exact ⟨rfl, by first | exact HB.out | exact hgb ▸ HB.out⟩

set_option maxRecDepth 100000 in
set_option maxHeartbeats 4000000 in
theorem step8_calls (i : Nat) (w : World) (hi : i ≤ 5864062014805) : Calls Tryd.prog 47 #[.string (toldB i)] w fun e w' => e = .returned (.int .i64 i) ∧ w' = w := by
  have hs := toldB_size i
  have HS := Lib.hid (fun (m : Nat) (hm : m < (toldB i).size) => toldB_at hi hm)
  generalize toldB i = s at hs HS
  go_enter Tryd.func47, Tryd.ntmps47
  go_wp2_with (fail)
  go_loopw [3, 4] (fun n k wr => ∃ j : Nat, n = .int .i64 ((i / 256 ^ j : Nat) : Int) ∧ k = .int .i64 ((j : Int) - 1) ∧ j ≤ 8 ∧ wr = w) (fun _ k _ => (intOf k + 1).toNat)
  case atStart => exact ⟨8, by rw [show i / 256 ^ 8 = 0 by omega]; rfl, rfl, by omega, rfl⟩
  case round =>
    obtain ⟨j, rfl, rfl, hj, rfl⟩ := hrel
    by_cases hlt : 0 < j
    · obtain ⟨m, rfl⟩ : ∃ m, j = m + 1 := ⟨j - 1, by omega⟩
      have hm : (m : Int) < 8 := by omega
      have hmi : ((m + 1 : Nat) : Int) - 1 = m := by omega
      obtain ⟨n, hn⟩ : ∃ n, i / 256 ^ (m + 1) = n := ⟨_, rfl⟩
      have HN := Lib.hid hn
      rw [hn]
      clear hn
      go_wp2_with (fail)
      refine ⟨⟨m, ?_, rfl, by omega, trivial⟩, by simp [intOf]⟩
      have h1 := HS.out m (by omega)
      have h2 : i / 256 ^ (m + 1) = i / 256 ^ m / 256 := by rw [Nat.pow_succ, Nat.div_div_eq_div_mul]
      have h3 : i / 256 ^ m ≤ i := Nat.div_le_self _ _
      have h4 := HN.out
      rw [h2] at h4
      generalize i / 256 ^ m = q at h1 h3 h4 ⊢
      rw [h1, IntWalk.wrap64_in ((n : Int) * 256) (by omega), IntWalk.wrap64_in ((q % 256 : Nat) : Int) (by omega), IntWalk.wrap64_in _ (by omega)]
      exact congrArg _ (by omega)
    · obtain rfl : j = 0 := by omega
      go_wp2_with (fail)
      go_ret
      exact ⟨by simp, rfl⟩
end Go.Proofs.YtmljiegeingpeaaDoor
