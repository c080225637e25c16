/- custodylaw16.GuardKnown (closed) by a contract. -/
import Derived.Test.YtmdkcggmnejkoaaDoorKnown2
import Derived.Test.YtmdkcggmnejkoaaDoorKnown3
import Derived.Test.YtmdkcggmnejkoaaDoorKnown4
import Derived.Test.YtmdkcggmnejkoaaDoorKnown5
import Derived.Test.YtmdkcggmnejkoaaDoorWorks
namespace Go.Proofs.YtmdkcggmnejkoaaDoor
set_option linter.unusedSimpArgs false
set_option linter.unusedVariables false
open Go.RowKit

set_option maxRecDepth 100000 in
set_option maxHeartbeats 4000000 in
theorem lawKnown_calls (w : World) (hG : HG w) : Calls Tryd.prog 10 #[] w fun e w' => e = .returned (.bool true) ∧ Below w.heap.size w w' := by
  have B := Below.refl w.heap.size w
  have HB := Lib.hid B
  clear B
  go_enter Tryd.func10, Tryd.ntmps10
  go_wp2_with (fail)
  refine (works_calls w (hG.below HB.out)).mono ?_
  rintro e v0 ⟨rfl, hz⟩
  replace HB := Lib.hid (HB.out.trans (hz.mono HB.out.size))
  clear hz
  go_wp2_with (fail)
  refine (knownRows_calls v0 (hG.below HB.out)).mono ?_
  rintro e v1 ⟨rfl, hz⟩
  replace HB := Lib.hid (HB.out.trans (hz.mono HB.out.size))
  clear hz
  go_wp2_with (fail)
  refine (knownFields_calls v1 (hG.below HB.out)).mono ?_
  rintro e v2 ⟨rfl, hz⟩
  replace HB := Lib.hid (HB.out.trans (hz.mono HB.out.size))
  clear hz
  go_wp2_with (fail)
  refine (knownLegs_calls v2 (hG.below HB.out)).mono ?_
  rintro e v3 ⟨rfl, hz⟩
  replace HB := Lib.hid (HB.out.trans (hz.mono HB.out.size))
  clear hz
  go_wp2_with (fail)
  refine (knownWide_calls v3 (hG.below HB.out)).mono ?_
  rintro e v4 ⟨rfl, hz⟩
  replace HB := Lib.hid (HB.out.trans (hz.mono HB.out.size))
  clear hz
  go_wp2_with (fail)
  refine (knownFits_calls v4 (hG.below HB.out)).mono ?_
  rintro e v5 ⟨rfl, hz⟩
  replace HB := Lib.hid (HB.out.trans (hz.mono HB.out.size))
  clear hz
  go_wp2_with (fail)
  go_ret
  exact ⟨rfl, HB.out⟩
end Go.Proofs.YtmdkcggmnejkoaaDoor
