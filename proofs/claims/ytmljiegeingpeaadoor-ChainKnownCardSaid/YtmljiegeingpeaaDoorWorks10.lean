/- custodylaw10.works. -/
import Derived.Test.YtmljiegeingpeaaDoorActs
namespace Go.Proofs.YtmljiegeingpeaaDoor
set_option linter.unusedSimpArgs false
set_option linter.unusedVariables false
open Go.RowKit

def wA : List VerS := [⟨3, ⟨#[97]⟩⟩]
theorem w_put : putL ([] : List VerS) ⟨3, ⟨#[97]⟩⟩ = wA := by simp [putL, mayPut, lastNo, wA]
theorem w_putE : putE ([] : List VerS) 3 = 0 := by simp [putE, mayPut, lastNo]
theorem w_putE2 : putE wA 3 = 1 := by simp [putE, mayPut, lastNo, wA]
theorem w_at : atV wA 5 = ⟨#[97]⟩ := by simp [atV, leN, wA]
theorem w_is : decide (0 < leN wA 5) = true := by simp [leN, wA]

set_option maxRecDepth 100000 in
set_option maxHeartbeats 4000000 in
theorem works_calls (w : World) (hG : HG w) : Calls Tryd.prog 9 #[] w fun e w' => e = .returned (.bool true) ∧ Below w.heap.size w w' := by
  go_enter Tryd.func9, Tryd.ntmps9
  go_wp2_with (fail)
  refine (newChain_calls w).mono ?_
  rintro e w1 ⟨rfl, hC1, hb1⟩
  obtain ⟨p, hp⟩ : ∃ p, w.heap.size = p := ⟨_, rfl⟩
  rw [hp] at hC1 ⊢
  have HC1 := Lib.hid hC1
  have HB1 := Lib.hid hb1
  have HG0 := Lib.hid hG
  clear hC1 hb1 hG
  go_wp2_with (fail)
  refine (put_calls 3 ⟨#[97]⟩ w1 HC1.out (by simp)).mono ?_
  rintro e w2 ⟨s2, rfl, hC2, hb2, hs2⟩
  rw [w_putE, errV_zero]
  rw [w_put] at hC2
  have hF1 : ∀ i, OfC p (.slice none 0 0) i → w.heap.size ≤ i := by
    rintro i (rfl | hi)
    · omega
    · cases hi
  have hF2 : ∀ i, OfC p s2 i → w.heap.size ≤ i := by
    rintro i (rfl | hi)
    · omega
    · rcases hs2 i hi with h | h
      · cases h
      · exact Nat.le_trans HB1.out.size h
  have HC2 := Lib.hid hC2
  have HB2 := Lib.hid (HB1.out.trans (hb2.to_below hF1 HB1.out.size))
  have HF2 := Lib.hid hF2
  clear hC2 hb2 hF1 hF2 hs2
  go_wp2_with (fail)
  refine (at_calls 5 w2 HC2.out).mono ?_
  rintro e w3 ⟨rfl, hb3⟩
  rw [w_at, w_is]
  have HC3 := Lib.hid (HC2.out.below hb3)
  have HB3 := Lib.hid (HB2.out.trans (hb3.mono HB2.out.size))
  clear hb3
  go_wp2_with (fail)
  refine (put_calls 3 ⟨#[98]⟩ w3 HC3.out (by simp [wA])).mono ?_
  rintro e w4 ⟨s4, rfl, hC4, hb4, hs4⟩
  rw [w_putE2]
  have HB4 := Lib.hid (HB3.out.trans (hb4.to_below HF2.out HB3.out.size))
  have HG4 := Lib.hid (HG0.out.below HB4.out)
  clear hC4 hb4 hs4
  go_wp2_with (fail)
  refine (plain_errV 1 1 w4 (by omega) (by omega) HG4.out).mono ?_
  rintro e w5 ⟨rfl, hb5⟩
  go_wp2
  go_ret
  exact ⟨rfl, HB4.out.trans (hb5.mono HB4.out.size)⟩
end Go.Proofs.YtmljiegeingpeaaDoor
