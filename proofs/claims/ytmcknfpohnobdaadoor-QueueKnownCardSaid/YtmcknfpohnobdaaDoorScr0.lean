/- CopyKeys, Pick. -/
import Derived.Test.YtmcknfpohnobdaaDoorQ11
namespace Go.Proofs.YtmcknfpohnobdaaDoor
set_option linter.unusedSimpArgs false
set_option linter.unusedVariables false
open Go.RowKit Go.MapKept Go.ChangeMaps Go.Maps

def CopyRow (w : World) (E s n : Nat) (cs : List Value) (e : Ending) (w' : World) : Prop :=
  ∃ v, e = .returned v ∧ w'.ownsRow w.heap.size E s v n cs ∧ Below w.heap.size w w'

set_option maxRecDepth 100000 in
set_option maxHeartbeats 4000000 in
theorem copyKeys_calls (l : List Key) (A : Option Addr) (c B : Nat) (w : World) (hr : Reads w B 2 A l.length (keysC l)) (hB : B ≤ w.heap.size) (hlen : l.length * 16 ≤ 140737488351232) :
    Calls Tryd.prog 43 #[.slice A l.length c] w (CopyRow w 48 2 l.length (keysC l)) := by
  obtain ⟨i0, hi0, hz0, hz1, hz2⟩ := info_parts infoQKey
  go_enter Tryd.func43, Tryd.ntmps43
  go_wp2_with (fail)
  go_loopw [3, 4] (fun v i wr => ∃ k : Nat, k ≤ l.length ∧ i = .int .i64 k ∧ wr.ownsRow w.heap.size 48 2 v k (keysC (l.take k)) ∧ Below w.heap.size w wr) (fun _ i _ => l.length - (intOf i).toNat)
  case atStart => exact ⟨0, Nat.zero_le _, rfl, World.ownsRow_nil _ _ _ _, Below.refl _ _⟩
  case round =>
    obtain ⟨k, hk, rfl, hown, hbel⟩ := hrel
    by_cases hlt : k < l.length
    · obtain ⟨ad, rfl, hadb, e0, e1⟩ := keys_at (hr.below (hbel.mono hB)) hlt
      have htk : l.take (k + 1) = l.take k ++ [l[k]] := by rw [List.take_succ_eq_append_getElem hlt]
      have HTK := Lib.hid htk
      clear htk
      generalize hx : l[k] = x at e0 e1 HTK
      have HX := Lib.hid hx
      clear hx hr
      go_wp2_with ((at_builtin; refine wpList_append_own _ rfl (.tmp 11) (.tmp 16) 31 rfl w.heap.size 48 i0 _ 2 16 Tryd.underlying31 hi0 hz0 hz1 hz2 rfl (by decide) _ (k) (keysC (l.take k)) rfl (hown.alloc _) ⟨wr.heap.size, 0, none⟩ 1 1 [.int .i64 x.acc, .int .i64 x.ast] rfl rfl ?_ ?_ ?_ ?_ ?_ ?_); exact new_cells wr 48 [.int .i64 x.acc, .int .i64 x.ast]; (simp [Value.oneCell']); (unfold maxLen; omega); (omega); (have := hbel.size; simp; omega); intro v1 w1 hown1 hg1 _)
      go_roundw
      case rel =>
        refine ⟨k + 1, by omega, by go_num, ?_, (hbel.alloc hbel.size _).grown hg1 (by have := hbel.size; simp; omega) (fun b hb => own_base hown hb)⟩
        rw [HTK.out, keysC, flat_snoc]
        exact hown1
      case measure => simp [intOf]; omega
    · obtain rfl : k = l.length := by omega
      rw [List.take_length] at hown
      go_wp2
      go_ret
      exact ⟨_, rfl, hown, hbel⟩
set_option maxRecDepth 100000 in
set_option maxHeartbeats 1000000 in
theorem pick_calls (x n : Int) (w : World) (hn : 1 ≤ n) (hn2 : n ≤ 1000) : Calls Tryd.prog 7 #[.int .i64 x, .int .i64 n] w fun e w' => ∃ r : Nat, e = .returned (.int .i64 r) ∧ (r : Int) < n ∧ w' = w := by
  have h1 : x.tmod n < n := Int.tmod_lt_of_pos x (by omega)
  have h2 : -n < x.tmod n := Int.lt_tmod_of_pos x (by omega)
  go_enter Tryd.func7, Tryd.ntmps7
  rcases Int.lt_or_le (x.tmod n) 0 with h3 | h3
  · have h4 : wrap64 (x.tmod n + n) = x.tmod n + n := (by unfold wrap64; omega)
    go_wp2
    go_ret
    exact ⟨(x.tmod n + n).toNat, by rw [Int.toNat_of_nonneg (by omega)]; first | rfl | simp [h4], by omega, rfl⟩
  · go_wp2
    go_ret
    exact ⟨(x.tmod n).toNat, by rw [Int.toNat_of_nonneg h3]; rfl, by omega, rfl⟩

end Go.Proofs.YtmcknfpohnobdaaDoor
