/- custodylaw16.knownFits (of the closed law GuardKnown) by a contract. -/
import Derived.Test.YtmdkcggmnejkoaaDoorFitsLaw
import Derived.Test.YtmdkcggmnejkoaaDoorEncode
import Derived.Deep.RegionHeld3
namespace Go.Proofs.YtmdkcggmnejkoaaDoor
set_option linter.unusedSimpArgs false
set_option linter.unusedVariables false
open Go.RowKit

theorem ints_cell {w : World} {g : Nat} {t : TypeId} {l : List Int} (h : Blk w g t (intsC l).toArray) {i : Nat} (hi : i < l.length) : ∃ x, w.cell? ⟨g, i, none⟩ = some (.int .i64 x) :=
  ⟨l[i], by rw [h.cell i, List.getElem?_toArray, ints_get]; simp [hi]⟩

set_option maxRecDepth 100000 in
set_option maxHeartbeats 4000000 in
theorem knownFits_calls (w : World) (hG : HG w) : Calls Tryd.prog 38 #[] w fun e w' => e = .returned (.bool true) ∧ Below w.heap.size w w' := by
  obtain ⟨g, hg⟩ : ∃ g, w.heap.size = g := ⟨_, rfl⟩
  go_enter Tryd.func38, Tryd.ntmps38
  go_wp2_with (fail)
  go_loopw [2] (fun j wr => ∃ i : Nat, i ≤ 13 ∧ j = .int .i64 i ∧ Blk wr g 3 (intsC [-9223372036854775808, -1, 0, 1, 8, 9, 64, 65, 256, 257, 65536, 65537, 9223372036854775807]).toArray ∧ Below w.heap.size w wr) (fun j _ => 13 - (intOf j).toNat)
  case atStart => exact ⟨0, Nat.zero_le _, rfl, hg ▸ Blk.new _ _ _, (Below.refl _ _).alloc (Nat.le_refl _) _⟩
  case round =>
    obtain ⟨i, hi, rfl, hE, B⟩ := hrel
    by_cases hlt : i < 13
    · have hil : (i : Int) < 13 := by omega
      obtain ⟨x, c0⟩ := ints_cell hE (i := i) hlt
      have HE := Lib.hid hE
      clear hE
      obtain ⟨gl, hgl⟩ : ∃ gl, wr.heap.size = gl := ⟨_, rfl⟩
      go_wp2_with (fail)
      go_loopw [5] (fun j w2 => ∃ k : Nat, k ≤ 5 ∧ j = .int .i64 k ∧ Blk w2 gl 23 (intsC [x, 1, 0, 1, 0, 1, x, 0, 1, 0, 1, 1, 0, x, 0, 1, 1, x, 1, 0, 1, 1, 0, 1, x]).toArray ∧ Blk w2 g 3 (intsC [-9223372036854775808, -1, 0, 1, 8, 9, 64, 65, 256, 257, 65536, 65537, 9223372036854775807]).toArray ∧ Below w.heap.size w w2) (fun j _ => 5 - (intOf j).toNat)
      case atStart => exact ⟨0, Nat.zero_le _, rfl, hgl ▸ Blk.new _ _ _, HE.out.alloc _, B.alloc B.size _⟩
      case round =>
        obtain ⟨k, hk, rfl, hM, hE, B⟩ := hrel
        by_cases hlt2 : k < 5
        · have hkl : (k : Int) < 5 := by omega
          obtain ⟨a0, e0⟩ := ints_cell hM (i := k * 5) (by show k * 5 < 25; omega)
          obtain ⟨a1, e1⟩ := ints_cell hM (i := k * 5 + 1) (by show k * 5 + 1 < 25; omega)
          obtain ⟨a2, e2⟩ := ints_cell hM (i := k * 5 + 2) (by show k * 5 + 2 < 25; omega)
          obtain ⟨a3, e3⟩ := ints_cell hM (i := k * 5 + 3) (by show k * 5 + 3 < 25; omega)
          obtain ⟨a4, e4⟩ := ints_cell hM (i := k * 5 + 4) (by show k * 5 + 4 < 25; omega)
          have HM := Lib.hid hM
          have HE2 := Lib.hid hE
          clear hM hE
          go_wp2_with (first | (go_at_call 3; refine (lawFits_calls a0 a1 a2 a3 a4 _ (hG.below B)).mono ?_; rintro e w3 ⟨rfl, hb3⟩))
          go_roundw
          case rel => exact ⟨k + 1, by omega, by go_num, HM.out.below hb3 HM.out.lt, HE2.out.below hb3 HE2.out.lt, B.trans (hb3.mono B.size)⟩
          case measure => simp [intOf]; omega
        · obtain rfl : k = 5 := by omega
          go_wp2_with (fail)
          go_roundw
          case rel => exact ⟨i + 1, by omega, by go_num, hE, B⟩
          case measure => simp [intOf]; omega
    · obtain rfl : i = 13 := by omega
      go_wp2_with (first | (go_at_call 12; refine (fits_calls 65536 65536 256 64 8 _).mono ?_; rintro e w3 ⟨rfl, hb3⟩; rw [show fitsN 65536 65536 256 64 8 = 0 by decide, errV_zero]))
      go_ret
      exact ⟨rfl, B.trans (hb3.mono B.size)⟩
end Go.Proofs.YtmdkcggmnejkoaaDoor
