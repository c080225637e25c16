/- custodyref0's copies of lists, by contracts (printed by gen_copy.py). -/
import Derived.Test.YtmdkcggmnejkoaaDoorLegsKit
import Derived.Test.YtmdkcggmnejkoaaDoorKeysKit
namespace Go.Proofs.YtmdkcggmnejkoaaDoor
set_option linter.unusedSimpArgs false
set_option linter.unusedVariables false
open Go.RowKit

/-- A list of the call's own, n elements, nil where it has none. -/
def CopyRow (w : World) (E s n : Nat) (cs : List Value) (e : Ending) (w' : World) : Prop :=
  ∃ v, e = .returned v ∧ w'.ownsRow w.heap.size E s v n cs ∧ Below w.heap.size w w'

set_option maxRecDepth 100000 in
set_option maxHeartbeats 4000000 in
theorem copyLegs_calls (l : List Leg) (A : Option Addr) (c B : Nat) (w : World) (hr : Reads w B 5 A l.length (legsC l)) (hB : B ≤ w.heap.size) (hlen : l.length * 40 ≤ 140737488351232) :
    Calls Tryd.prog 66 #[.slice A l.length c] w (CopyRow w 45 5 l.length (legsC l)) := by
  obtain ⟨i0, hi0, hz0, hz1, hz2⟩ := info_parts infoLegs
  go_enter Tryd.func66, Tryd.ntmps66
  go_wp2_with (fail)
  go_loopw [3, 4] (fun v i wr => ∃ k : Nat, k ≤ l.length ∧ i = .int .i64 k ∧ wr.ownsRow w.heap.size 45 5 v k (legsC (l.take k)) ∧ Below w.heap.size w wr) (fun _ i _ => l.length - (intOf i).toNat)
  case atStart => exact ⟨0, Nat.zero_le _, rfl, World.ownsRow_nil _ _ _ _, Below.refl _ _⟩
  case round =>
    obtain ⟨k, hk, rfl, hown, hbel⟩ := hrel
    by_cases hlt : k < l.length
    · obtain ⟨ad, rfl, hadb, e0, e1, e2, e3, e4⟩ := legs_at (hr.below (hbel.mono hB)) hlt
      have htk : l.take (k + 1) = l.take k ++ [l[k]] := by rw [List.take_succ_eq_append_getElem hlt]
      have HTK := Lib.hid htk
      clear htk
      generalize hx : l[k] = x at e0 e1 e2 e3 e4 HTK
      have HX := Lib.hid hx
      clear hx hr
      go_wp2_with ((at_builtin; refine wpList_append_own _ rfl (.tmp 11) (.tmp 16) 30 rfl w.heap.size 45 i0 _ 5 40 Tryd.underlying30 hi0 hz0 hz1 hz2 rfl (by decide) _ (k) (legsC (l.take k)) rfl (hown.alloc _) ⟨wr.heap.size, 0, none⟩ 1 1 [.int .i64 x.f, .int .i64 x.t, .int .i64 x.a, .int .i64 x.q, .int .i64 x.n] rfl rfl ?_ ?_ ?_ ?_ ?_ ?_); exact new_cells wr 45 [.int .i64 x.f, .int .i64 x.t, .int .i64 x.a, .int .i64 x.q, .int .i64 x.n]; (simp [Value.oneCell']); (unfold maxLen; omega); (omega); (have := hbel.size; simp; omega); intro v1 w1 hown1 hg1 _)
      go_roundw
      case rel =>
        refine ⟨k + 1, by omega, by go_num, ?_, (hbel.alloc hbel.size _).grown hg1 (by have := hbel.size; simp; omega) (fun b hb => own_base hown hb)⟩
        rw [HTK.out, legsC, flat_snoc]
        exact hown1
      case measure => simp [intOf]; omega
    · obtain rfl : k = l.length := by omega
      rw [List.take_length] at hown
      go_wp2
      go_ret
      exact ⟨_, rfl, hown, hbel⟩

set_option maxRecDepth 100000 in
set_option maxHeartbeats 4000000 in
theorem copyKeys_calls (l : List Key) (A : Option Addr) (c B : Nat) (w : World) (hr : Reads w B 2 A l.length (keysC l)) (hB : B ≤ w.heap.size) (hlen : l.length * 16 ≤ 140737488351232) :
    Calls Tryd.prog 67 #[.slice A l.length c] w (CopyRow w 47 2 l.length (keysC l)) := by
  obtain ⟨i0, hi0, hz0, hz1, hz2⟩ := info_parts infoKeys
  go_enter Tryd.func67, Tryd.ntmps67
  go_wp2_with (fail)
  go_loopw [3, 4] (fun v i wr => ∃ k : Nat, k ≤ l.length ∧ i = .int .i64 k ∧ wr.ownsRow w.heap.size 47 2 v k (keysC (l.take k)) ∧ Below w.heap.size w wr) (fun _ i _ => l.length - (intOf i).toNat)
  case atStart => exact ⟨0, Nat.zero_le _, rfl, World.ownsRow_nil _ _ _ _, Below.refl _ _⟩
  case round =>
    obtain ⟨k, hk, rfl, hown, hbel⟩ := hrel
    by_cases hlt : k < l.length
    · obtain ⟨ad, rfl, hadb, e0, e1⟩ := keys_at (hr.below (hbel.mono hB)) hlt
      have htk : l.take (k + 1) = l.take k ++ [l[k]] := by rw [List.take_succ_eq_append_getElem hlt]
      have HTK := Lib.hid htk
      clear htk
      generalize hx : l[k] = x at e0 e1 HTK
      have HX := Lib.hid hx
      clear hx hr
      go_wp2_with ((at_builtin; refine wpList_append_own _ rfl (.tmp 11) (.tmp 16) 31 rfl w.heap.size 47 i0 _ 2 16 Tryd.underlying31 hi0 hz0 hz1 hz2 rfl (by decide) _ (k) (keysC (l.take k)) rfl (hown.alloc _) ⟨wr.heap.size, 0, none⟩ 1 1 [.int .i64 x.acc, .int .i64 x.ast] rfl rfl ?_ ?_ ?_ ?_ ?_ ?_); exact new_cells wr 47 [.int .i64 x.acc, .int .i64 x.ast]; (simp [Value.oneCell']); (unfold maxLen; omega); (omega); (have := hbel.size; simp; omega); intro v1 w1 hown1 hg1 _)
      go_roundw
      case rel =>
        refine ⟨k + 1, by omega, by go_num, ?_, (hbel.alloc hbel.size _).grown hg1 (by have := hbel.size; simp; omega) (fun b hb => own_base hown hb)⟩
        rw [HTK.out, keysC, flat_snoc]
        exact hown1
      case measure => simp [intOf]; omega
    · obtain rfl : k = l.length := by omega
      rw [List.take_length] at hown
      go_wp2
      go_ret
      exact ⟨_, rfl, hown, hbel⟩
end Go.Proofs.YtmdkcggmnejkoaaDoor
