/- Store: the document's hash of a key; shards. -/
import Derived.Test.YtflkddllofeiaaaGreatDoorHash
namespace Go.Proofs.YtflkddllofeiaaaGreatDoor
set_option linter.unusedSimpArgs false
set_option linter.unusedVariables false
open Go.RowKit

set_option maxRecDepth 100000 in
set_option maxHeartbeats 1000000 in
theorem rhash_calls (k : Key) (w : World) : Calls Tryz.prog 81 #[.agg #[.int .i64 k.acc, .int .i64 k.ast]] w fun e w' => e = .returned (.int .u64 (hashV k)) ∧ Below w.heap.size w w' := by
  have ha := wrap_u64 k.acc
  have hb := wrap_u64 k.ast
  obtain ⟨na, hna⟩ : ∃ n, IntKind.u64.wrap k.acc = n := ⟨_, rfl⟩
  obtain ⟨nb, hnb⟩ : ∃ n, IntKind.u64.wrap k.ast = n := ⟨_, rfl⟩
  obtain ⟨a1, ha1⟩ : ∃ n, hto na 14695981039346656037 8 = n := ⟨_, rfl⟩
  obtain ⟨a2, ha2⟩ : ∃ n, hto nb a1 8 = n := ⟨_, rfl⟩
  have hv : hashV k = a2 := by
    unfold hashV
    rw [hna, hnb, ha1, ha2]
  rw [hv]
  have HA1 := Lib.hid ha1
  have HA2 := Lib.hid ha2
  rw [hna] at ha
  rw [hnb] at hb
  have HA := Lib.hid ha
  have HB := Lib.hid hb
  clear ha hb hv ha1 ha2
  go_enter Tryz.func81, Tryz.ntmps81
  go_wp2_with (fail)
  go_loop [3, 5] (fun h i => ∃ j : Int, (0 ≤ j ∧ j ≤ 2) ∧ i = .int .i64 j ∧ h = .int .u64 (if j = 0 then 14695981039346656037 else if j = 1 then a1 else a2)) (fun _ i => 2 - (intOf i).toNat)
  case atStart => exact ⟨0, by omega, rfl, rfl⟩
  case round =>
    obtain ⟨j, hj, rfl, rfl⟩ := hrel
    obtain rfl | rfl | rfl : j = 0 ∨ j = 1 ∨ j = 2 := by omega
    · simp only [if_true]
      go_wp2_with (fail)
      go_loop [3, 6] (fun h i => ∃ (m : Nat) (j : Int), m ≤ 8 ∧ j = 7 - m ∧ i = .int .i64 j ∧ h = .int .u64 (hto na 14695981039346656037 m)) (fun _ i => (intOf i + 8).toNat)
      case atStart => exact ⟨0, 7, by omega, by omega, rfl, rfl⟩
      case round =>
        obtain ⟨m, j, hm, hj, rfl, rfl⟩ := hrel
        by_cases hl : m < 8
        · have HJ := Lib.hid hj
          have hj0 : 0 ≤ j ∧ j ≤ 7 := by omega
          have HE : Hid ((8 * j).toNat = 56 - 8 * m) := by show _ = _; omega
          clear hj
          go_wp2_with (fail)
          go_round
          case rel => exact ⟨m + 1, j - 1, by omega, by have := HJ.out; omega, rfl, by rw [HE.out]; rfl⟩
          case measure => simp [intOf]; omega
        · obtain rfl : m = 8 := by omega
          have hj2 : j = -1 := by omega
          subst hj2
          rw [HA1.out]
          clear hj
          go_wp2_with (fail)
          go_round
          case rel => exact ⟨1, by omega, rfl, rfl⟩
          case measure => simp [intOf]
    · rw [if_neg (by omega), if_pos rfl]
      go_wp2_with (fail)
      go_loop [3, 6] (fun h i => ∃ (m : Nat) (j : Int), m ≤ 8 ∧ j = 7 - m ∧ i = .int .i64 j ∧ h = .int .u64 (hto nb a1 m)) (fun _ i => (intOf i + 8).toNat)
      case atStart => exact ⟨0, 7, by omega, by omega, rfl, rfl⟩
      case round =>
        obtain ⟨m, j, hm, hj, rfl, rfl⟩ := hrel
        by_cases hl : m < 8
        · have HJ := Lib.hid hj
          have hj0 : 0 ≤ j ∧ j ≤ 7 := by omega
          have HE : Hid ((8 * j).toNat = 56 - 8 * m) := by show _ = _; omega
          clear hj
          go_wp2_with (fail)
          go_round
          case rel => exact ⟨m + 1, j - 1, by omega, by have := HJ.out; omega, rfl, by rw [HE.out]; rfl⟩
          case measure => simp [intOf]; omega
        · obtain rfl : m = 8 := by omega
          have hj2 : j = -1 := by omega
          subst hj2
          rw [HA2.out]
          clear hj
          go_wp2_with (fail)
          go_round
          case rel => exact ⟨2, by omega, rfl, rfl⟩
          case measure => simp [intOf]
    · rw [if_neg (by omega), if_neg (by omega)]
      go_wp2
      go_ret
      exact ⟨rfl, ((Below.refl _ _).alloc (Nat.le_refl _) _).alloc (by simp) _⟩

/-- What a number of shards counts as. -/
def cntS (n : Int) : Nat := if n < 1 then 1 else if 64 < n then 64 else n.toNat
theorem cntS_pos (n : Int) : 1 ≤ cntS n ∧ cntS n ≤ 64 := by unfold cntS; split; omega; split <;> omega
theorem counted_calls (n : Int) (w : World) : Calls Tryz.prog 25 #[.int .i64 n] w fun e w' => e = .returned (.int .i64 (cntS n)) ∧ w' = w := by
  have hc : (n < 1 ∧ cntS n = 1) ∨ (64 < n ∧ cntS n = 64) ∨ (1 ≤ n ∧ n ≤ 64 ∧ (cntS n : Int) = n) := by unfold cntS; split; omega; split <;> omega
  obtain ⟨c, hcc⟩ : ∃ c, cntS n = c := ⟨_, rfl⟩
  rw [hcc] at hc ⊢
  clear hcc
  go_enter Tryz.func25, Tryz.ntmps25
  rcases hc with ⟨h, rfl⟩ | ⟨h, rfl⟩ | ⟨h1, h2, h3⟩
  · go_wp2
    go_ret
    exact ⟨by first | rfl | simp; omega, rfl⟩
  · go_wp2
    go_ret
    exact ⟨by first | rfl | simp; omega, rfl⟩
  · go_wp2
    go_ret
    exact ⟨by rw [h3]; rfl, rfl⟩
theorem rcounts_calls (n : Int) (w : World) : Calls Tryz.prog 26 #[.int .i64 n] w fun e w' => e = .returned (.int .i64 (cntS n)) ∧ w' = w := by
  have hc : (n < 1 ∧ cntS n = 1) ∨ (64 < n ∧ cntS n = 64) ∨ (1 ≤ n ∧ n ≤ 64 ∧ (cntS n : Int) = n) := by unfold cntS; split; omega; split <;> omega
  obtain ⟨c, hcc⟩ : ∃ c, cntS n = c := ⟨_, rfl⟩
  rw [hcc] at hc ⊢
  clear hcc
  go_enter Tryz.func26, Tryz.ntmps26
  rcases hc with ⟨h, rfl⟩ | ⟨h, rfl⟩ | ⟨h1, h2, h3⟩
  · go_wp2
    go_ret
    exact ⟨rfl, rfl⟩
  · go_wp2
    go_ret
    exact ⟨rfl, rfl⟩
  · go_wp2
    go_ret
    exact ⟨by rw [h3]; rfl, rfl⟩
/-- The shard of a key. -/
def shardOf (k : Key) (n : Nat) : Nat := (hashV k).toNat % n
set_option maxHeartbeats 1000000 in
theorem shard_calls (k : Key) (n : Int) (w : World) : Calls Tryz.prog 51 #[.agg #[.int .i64 k.acc, .int .i64 k.ast], .int .i64 n] w fun e w' => e = .returned (.int .i64 (shardOf k (cntS n))) ∧ Below w.heap.size w w' := by
  have hp := hashV_pos k
  have hc := cntS_pos n
  have hcalls := fun w => hash_calls k w
  unfold shardOf
  obtain ⟨c, hcc⟩ : ∃ c, cntS n = c := ⟨_, rfl⟩
  obtain ⟨h, hh⟩ : ∃ h, hashV k = h := ⟨_, rfl⟩
  simp only [hh] at hp hcalls ⊢
  rw [hcc] at hc ⊢
  have hcn := fun w => counted_calls n w
  simp only [hcc] at hcn
  have hr : h % (c : Int) = ((h.toNat % c : Nat) : Int) := by rw [Int.natCast_emod, Int.toNat_of_nonneg hp.1]
  have hlt : h.toNat % c < c := Nat.mod_lt _ (by omega)
  obtain ⟨r, hrr⟩ : ∃ r, h.toNat % c = r := ⟨_, rfl⟩
  rw [hrr] at hr hlt ⊢
  have H1 := Lib.hid hcalls
  have H2 := Lib.hid hcn
  have HR := Lib.hid hr
  clear hcalls hcn hr hcc hh hrr
  go_enter Tryz.func51, Tryz.ntmps51
  go_wp2_with (fail)
  refine (H1.out _).mono ?_
  rintro e w1 ⟨rfl, hb⟩
  go_wp2_with (fail)
  refine (H2.out _).mono ?_
  rintro e w1 ⟨rfl, rfl⟩
  have hw : wrap64 (h % (c : Int)) = (r : Int) := by rw [HR.out]; unfold wrap64; omega
  have hs : w.heap.size ≤ (w.alloc (Obj.cells #[.int .i64 k.acc, .int .i64 k.ast] 33)).heap.size := by simp
  have HW := Lib.hid hw
  have HS := Lib.hid hs
  clear hw hs
  go_wp2
  go_ret
  exact ⟨ret_int HW.out, ((Below.refl _ _).alloc (Nat.le_refl _) _).trans (hb.mono HS.out)⟩
set_option maxHeartbeats 1000000 in
theorem rshard_calls (k : Key) (n : Int) (w : World) : Calls Tryz.prog 82 #[.agg #[.int .i64 k.acc, .int .i64 k.ast], .int .i64 n] w fun e w' => e = .returned (.int .i64 (shardOf k (cntS n))) ∧ Below w.heap.size w w' := by
  have hp := hashV_pos k
  have hc := cntS_pos n
  have hcalls := fun w => rhash_calls k w
  unfold shardOf
  obtain ⟨c, hcc⟩ : ∃ c, cntS n = c := ⟨_, rfl⟩
  obtain ⟨h, hh⟩ : ∃ h, hashV k = h := ⟨_, rfl⟩
  simp only [hh] at hp hcalls ⊢
  rw [hcc] at hc ⊢
  have hcn := fun w => rcounts_calls n w
  simp only [hcc] at hcn
  have hr : h % (c : Int) = ((h.toNat % c : Nat) : Int) := by rw [Int.natCast_emod, Int.toNat_of_nonneg hp.1]
  have hlt : h.toNat % c < c := Nat.mod_lt _ (by omega)
  obtain ⟨r, hrr⟩ : ∃ r, h.toNat % c = r := ⟨_, rfl⟩
  rw [hrr] at hr hlt ⊢
  have H1 := Lib.hid hcalls
  have H2 := Lib.hid hcn
  have HR := Lib.hid hr
  clear hcalls hcn hr hcc hh hrr
  go_enter Tryz.func82, Tryz.ntmps82
  go_wp2_with (fail)
  refine (H1.out _).mono ?_
  rintro e w1 ⟨rfl, hb⟩
  go_wp2_with (fail)
  refine (H2.out _).mono ?_
  rintro e w1 ⟨rfl, rfl⟩
  have hw : wrap64 (h % (c : Int)) = (r : Int) := by rw [HR.out]; unfold wrap64; omega
  have hs : w.heap.size ≤ (w.alloc (Obj.cells #[.int .i64 k.acc, .int .i64 k.ast] 33)).heap.size := by simp
  have HW := Lib.hid hw
  have HS := Lib.hid hs
  clear hw hs
  go_wp2
  go_ret
  exact ⟨ret_int HW.out, ((Below.refl _ _).alloc (Nat.le_refl _) _).trans (hb.mono HS.out)⟩
end Go.Proofs.YtflkddllofeiaaaGreatDoor
