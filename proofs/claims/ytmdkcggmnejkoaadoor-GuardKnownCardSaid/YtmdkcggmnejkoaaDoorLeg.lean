/- guard.leg by a contract. -/
import Derived.Test.YtmdkcggmnejkoaaDoorFitsLaw
namespace Go.Proofs.YtmdkcggmnejkoaaDoor
set_option linter.unusedSimpArgs false
set_option linter.unusedVariables false
open Go.RowKit

/-- What guard.leg answers. -/
def legN (accs assets f t a q n : Int) : Int :=
  firstNZ [unlessN (belowB f accs) 14, unlessN (belowB t accs) 14, unlessN (f != t) 17, unlessN (belowB a assets) 15, unlessN (decide (0 < q)) 16, unlessN (withinB n 0 65536) 19]

set_option maxRecDepth 100000 in
set_option maxHeartbeats 4000000 in
theorem leg_calls (c0 c1 c2 c3 c4 f t a q n : Int) (w : World) : Calls Tryd.prog 55 #[.agg #[.int .i64 c0, .int .i64 c1, .int .i64 c2, .int .i64 c3, .int .i64 c4], .agg #[.int .i64 f, .int .i64 t, .int .i64 a, .int .i64 q, .int .i64 n]] w
    fun e w' => e = .returned (errV (legN c0 c1 f t a q n)) ∧ Below w.heap.size w w' := by
  go_enter Tryd.func55, Tryd.ntmps55
  go_wp2_with fail
  obtain ⟨W0, hW0⟩ : ∃ W0, (w.alloc (.cells #[.int .i64 c0, .int .i64 c1, .int .i64 c2, .int .i64 c3, .int .i64 c4] 23)).alloc (.cells #[.int .i64 f, .int .i64 t, .int .i64 a, .int .i64 q, .int .i64 n] 45) = W0 := ⟨_, rfl⟩
  have b0 : Blk W0 w.heap.size 23 #[.int .i64 c0, .int .i64 c1, .int .i64 c2, .int .i64 c3, .int .i64 c4] := hW0 ▸ (Blk.new _ _ _).alloc _
  have b1 : Blk W0 (w.heap.size + 1) 45 #[.int .i64 f, .int .i64 t, .int .i64 a, .int .i64 q, .int .i64 n] := by
    rw [← hW0, show w.heap.size + 1 = (w.alloc (.cells #[.int .i64 c0, .int .i64 c1, .int .i64 c2, .int .i64 c3, .int .i64 c4] 23)).heap.size by simp]
    exact Blk.new _ _ _
  have hb0 : Below w.heap.size w W0 := hW0 ▸ ((Below.refl _ _).alloc (Nat.le_refl _) _).alloc (by simp) _
  have hs0 : W0.heap.size = w.heap.size + 1 + 1 := by rw [← hW0]; simp
  have k0 : W0.cell? ⟨w.heap.size, 0, none⟩ = some (.int .i64 c0) := b0.cell 0
  have k1 : W0.cell? ⟨w.heap.size, 1, none⟩ = some (.int .i64 c1) := b0.cell 1
  have l0 : W0.cell? ⟨w.heap.size + 1, 0, none⟩ = some (.int .i64 f) := b1.cell 0
  have l1 : W0.cell? ⟨w.heap.size + 1, 1, none⟩ = some (.int .i64 t) := b1.cell 1
  have l2 : W0.cell? ⟨w.heap.size + 1, 2, none⟩ = some (.int .i64 a) := b1.cell 2
  have l3 : W0.cell? ⟨w.heap.size + 1, 3, none⟩ = some (.int .i64 q) := b1.cell 3
  have l4 : W0.cell? ⟨w.heap.size + 1, 4, none⟩ = some (.int .i64 n) := b1.cell 4
  rw [hW0]
  have HS := Lib.hid hs0
  clear b0 b1 hW0 hs0
  refine region_tail 32 (by kernel_rfl) (by kernel_rfl) ?_
  simp only [List.take_succ_cons, List.take_zero, List.drop_succ_cons, List.drop_zero]
  repeat still_step
  still_call (calls_same (below_calls _ _ _))
  repeat still_step
  still_call (calls_same (unless_calls _ _ _))
  repeat still_step
  still_call (calls_same (below_calls _ _ _))
  repeat still_step
  still_call (calls_same (unless_calls _ _ _))
  repeat still_step
  still_call (calls_same (unless_calls _ _ _))
  repeat still_step
  still_call (calls_same (below_calls _ _ _))
  repeat still_step
  still_call (calls_same (unless_calls _ _ _))
  repeat still_step
  still_call (calls_same (unless_calls _ _ _))
  repeat still_step
  still_call (calls_same (within_calls _ _ _ _))
  repeat still_step
  still_call (calls_same (unless_calls _ _ _))
  repeat still_step
  refine wpStill_nil ?_
  clear k0 k1 l0 l1 l2 l3 l4
  obtain ⟨W1, hW1⟩ : ∃ W1, W0.drew = W1 := ⟨_, rfl⟩
  have hb1 : Below w.heap.size w W1 := hW1 ▸ hb0.drew
  rw [hW1]
  clear hW1 HS hb0
  go_wp2_with (go_at_call 41; refine (fault_new6 _ _ _ _ _ _ _ _ ?_).mono ?_; (simp); rintro e w1 ⟨rfl, hb⟩)
  go_ret
  exact ⟨rfl, hb1.trans (hb.mono hb1.size)⟩
end Go.Proofs.YtmdkcggmnejkoaaDoor
