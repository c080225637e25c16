/- guard.Check by a contract. -/
import Derived.Test.YtmdkcggmnejkoaaDoorLeg
import Derived.Test.YtmdkcggmnejkoaaDoorList
namespace Go.Proofs.YtmdkcggmnejkoaaDoor
set_option linter.unusedSimpArgs false
set_option linter.unusedVariables false
open Go.RowKit

theorem check1_calls (n c0 : Int) (g : Nat) (w : World) (hc : w.cell? ⟨g, 0, none⟩ = some (.int .i64 c0)) : Calls Tryd.prog 52 #[.int .i64 n, .pointer (some ⟨g, 0, none⟩)] w fun e w' => e = .returned (.int .i64 (unlessN (belowB n c0) 14)) ∧ w = w' := by
  go_enter Tryd.func52, Tryd.ntmps52
  go_wp2_with (first | (go_at_call 53; refine (below_calls _ _ _).mono ?_; rintro e w' ⟨rfl, rfl⟩) | (go_at_call 42; refine (unless_calls _ _ _).mono ?_; rintro e w' ⟨rfl, rfl⟩))
  go_ret
  exact ⟨rfl, rfl⟩
theorem check2_calls (n c1 : Int) (g : Nat) (w : World) (hc : w.cell? ⟨g, 1, none⟩ = some (.int .i64 c1)) : Calls Tryd.prog 54 #[.int .i64 n, .pointer (some ⟨g, 0, none⟩)] w fun e w' => e = .returned (.int .i64 (unlessN (belowB n c1) 15)) ∧ w = w' := by
  go_enter Tryd.func54, Tryd.ntmps54
  go_wp2_with (first | (go_at_call 53; refine (below_calls _ _ _).mono ?_; rintro e w' ⟨rfl, rfl⟩) | (go_at_call 42; refine (unless_calls _ _ _).mono ?_; rintro e w' ⟨rfl, rfl⟩))
  go_ret
  exact ⟨rfl, rfl⟩

def Leg.N (c0 c1 : Int) (x : Leg) : Int := legN c0 c1 x.f x.t x.a x.q x.n
def Key.N (c0 c1 : Int) (x : Key) : Int := firstNZ [unlessN (belowB x.acc c0) 14, unlessN (belowB x.ast c1) 15]
def idN (id : Int) : Int := unlessN (withinB id 1 1099511627776) 1
def allN {α : Type} (f : α → Int) : List α → Int
  | [] => 0
  | x :: l => if f x = 0 then allN f l else f x

structure Op where
  code : Int
  acc : Int
  ast : Int
  qty : Int
  name : Int
  id : Int
  legs : List Leg
  pairs : List Key
/-- What guard.Check answers. -/
def checkN (c0 c1 : Int) (o : Op) : Int :=
  if o.code = 1 ∨ o.code = 2 then firstNZ [unlessN (belowB o.acc c0) 14, unlessN (belowB o.ast c1) 15, unlessN (decide (0 < o.qty)) 16]
  else if o.code = 3 ∨ o.code = 4 then firstNZ [unlessN (belowB o.acc c0) 14, unlessN (belowB o.ast c1) 15, unlessN (decide (0 < o.qty)) 16, unlessN (withinB o.name 1 65536) 19]
  else if o.code = 5 then
    (if firstNZ [unlessN (withinB o.id 1 1099511627776) 1, unlessN (decide (0 < o.legs.length)) 2, unlessN (decide ((o.legs.length : Int) ≤ 4)) 5] = 0 then allN (Leg.N c0 c1) o.legs
     else firstNZ [unlessN (withinB o.id 1 1099511627776) 1, unlessN (decide (0 < o.legs.length)) 2, unlessN (decide ((o.legs.length : Int) ≤ 4)) 5])
  else if o.code = 6 ∨ o.code = 7 then idN o.id
  else if o.code = 8 then (if o.pairs.length ≤ 64 then allN (Key.N c0 c1) o.pairs else 5)
  else 13

/-- The operation as a value; its lists' memory. -/
def Op.v (o : Op) (LA PA : Option Addr) (lc pc : Nat) : Value :=
  .agg #[.int .i64 o.code, .int .i64 o.acc, .int .i64 o.ast, .int .i64 o.qty, .int .i64 o.name, .int .i64 o.id, .slice LA o.legs.length lc, .slice PA o.pairs.length pc]

set_option maxRecDepth 100000 in
set_option maxHeartbeats 4000000 in
theorem check1 (c0 c1 c2 c3 c4 : Int) (o : Op) (LA PA : Option Addr) (lc pc : Nat) (w : World) (hc : o.code = 1) :
    Calls Tryd.prog 23 #[.agg #[.int .i64 c0, .int .i64 c1, .int .i64 c2, .int .i64 c3, .int .i64 c4], .agg #[.int .i64 o.code, .int .i64 o.acc, .int .i64 o.ast, .int .i64 o.qty, .int .i64 o.name, .int .i64 o.id, .slice LA o.legs.length lc, .slice PA o.pairs.length pc]] w fun e w' => e = .returned (errV (firstNZ [unlessN (belowB o.acc c0) 14, unlessN (belowB o.ast c1) 15, unlessN (decide (0 < o.qty)) 16])) ∧ Below w.heap.size w w' := by
  have HC := Lib.hid hc
  clear hc
  go_enter Tryd.func23, Tryd.ntmps23
  go_wp2_with (fail)
  obtain ⟨W0, hW0⟩ : ∃ W0, (w.alloc (.cells #[.int .i64 c0, .int .i64 c1, .int .i64 c2, .int .i64 c3, .int .i64 c4] 23)).alloc (.cells #[.int .i64 o.code, .int .i64 o.acc, .int .i64 o.ast, .int .i64 o.qty, .int .i64 o.name, .int .i64 o.id, .slice LA o.legs.length lc, .slice PA o.pairs.length pc] 33) = W0 := ⟨_, rfl⟩
  have b0 : Blk W0 w.heap.size 23 #[.int .i64 c0, .int .i64 c1, .int .i64 c2, .int .i64 c3, .int .i64 c4] := hW0 ▸ (Blk.new _ _ _).alloc _
  have b1 : Blk W0 (w.heap.size + 1) 33 #[.int .i64 o.code, .int .i64 o.acc, .int .i64 o.ast, .int .i64 o.qty, .int .i64 o.name, .int .i64 o.id, .slice LA o.legs.length lc, .slice PA o.pairs.length pc] := by
    rw [← hW0, show w.heap.size + 1 = (w.alloc (.cells #[.int .i64 c0, .int .i64 c1, .int .i64 c2, .int .i64 c3, .int .i64 c4] 23)).heap.size by simp]
    exact Blk.new _ _ _
  have hb0 : Below w.heap.size w W0 := hW0 ▸ ((Below.refl _ _).alloc (Nat.le_refl _) _).alloc (by simp) _
  have k0 : W0.cell? ⟨w.heap.size, 0, none⟩ = some (.int .i64 c0) := b0.cell 0
  have k1 : W0.cell? ⟨w.heap.size, 1, none⟩ = some (.int .i64 c1) := b0.cell 1
  have l0 : W0.cell? ⟨w.heap.size + 1, 0, none⟩ = some (.int .i64 o.code) := b1.cell 0
  have l1 : W0.cell? ⟨w.heap.size + 1, 1, none⟩ = some (.int .i64 o.acc) := b1.cell 1
  have l2 : W0.cell? ⟨w.heap.size + 1, 2, none⟩ = some (.int .i64 o.ast) := b1.cell 2
  have l3 : W0.cell? ⟨w.heap.size + 1, 3, none⟩ = some (.int .i64 o.qty) := b1.cell 3
  have l4 : W0.cell? ⟨w.heap.size + 1, 4, none⟩ = some (.int .i64 o.name) := b1.cell 4
  have l5 : W0.cell? ⟨w.heap.size + 1, 5, none⟩ = some (.int .i64 o.id) := b1.cell 5
  have l6 : W0.cell? ⟨w.heap.size + 1, 6, none⟩ = some (.slice LA o.legs.length lc) := b1.cell 6
  have l7 : W0.cell? ⟨w.heap.size + 1, 7, none⟩ = some (.slice PA o.pairs.length pc) := b1.cell 7
  rw [HC.out] at l0
  clear HC
  rw [hW0]
  clear b0 b1 hW0
  go_wp2_with (first | (go_at_call 40; refine (within_calls _ _ _ _).mono ?_; rintro e w' ⟨rfl, rfl⟩) | (go_at_call 42; refine (unless_calls _ _ _).mono ?_; rintro e w' ⟨rfl, rfl⟩))
  refine region_tail 12 (by kernel_rfl) (by kernel_rfl) ?_
  simp only [List.take_succ_cons, List.take_zero, List.drop_succ_cons, List.drop_zero]
  repeat still_step
  still_call (calls_same (check1_calls _ c0 _ _ k0))
  repeat still_step
  still_call (calls_same (check2_calls _ c1 _ _ k1))
  repeat still_step
  still_call (calls_same (unless_calls _ _ _))
  repeat still_step
  refine wpStill_nil ?_
  clear k0 k1 l0 l1 l2 l3 l4 l5 l6 l7
  obtain ⟨W1, hW1⟩ : ∃ W1, W0.drew = W1 := ⟨_, rfl⟩
  have hb1 : Below w.heap.size w W1 := hW1 ▸ hb0.drew
  rw [hW1]
  clear hW1 hb0
  go_wp2_with (go_at_call 41; refine (fault_new3 _ _ _ _ _ ?_).mono ?_; (simp); rintro e w1 ⟨rfl, hb⟩)
  go_ret
  exact ⟨rfl, hb1.trans (hb.mono hb1.size)⟩

set_option maxRecDepth 100000 in
set_option maxHeartbeats 4000000 in
theorem check2 (c0 c1 c2 c3 c4 : Int) (o : Op) (LA PA : Option Addr) (lc pc : Nat) (w : World) (hc : o.code = 2) :
    Calls Tryd.prog 23 #[.agg #[.int .i64 c0, .int .i64 c1, .int .i64 c2, .int .i64 c3, .int .i64 c4], .agg #[.int .i64 o.code, .int .i64 o.acc, .int .i64 o.ast, .int .i64 o.qty, .int .i64 o.name, .int .i64 o.id, .slice LA o.legs.length lc, .slice PA o.pairs.length pc]] w fun e w' => e = .returned (errV (firstNZ [unlessN (belowB o.acc c0) 14, unlessN (belowB o.ast c1) 15, unlessN (decide (0 < o.qty)) 16])) ∧ Below w.heap.size w w' := by
  have HC := Lib.hid hc
  clear hc
  go_enter Tryd.func23, Tryd.ntmps23
  go_wp2_with (fail)
  obtain ⟨W0, hW0⟩ : ∃ W0, (w.alloc (.cells #[.int .i64 c0, .int .i64 c1, .int .i64 c2, .int .i64 c3, .int .i64 c4] 23)).alloc (.cells #[.int .i64 o.code, .int .i64 o.acc, .int .i64 o.ast, .int .i64 o.qty, .int .i64 o.name, .int .i64 o.id, .slice LA o.legs.length lc, .slice PA o.pairs.length pc] 33) = W0 := ⟨_, rfl⟩
  have b0 : Blk W0 w.heap.size 23 #[.int .i64 c0, .int .i64 c1, .int .i64 c2, .int .i64 c3, .int .i64 c4] := hW0 ▸ (Blk.new _ _ _).alloc _
  have b1 : Blk W0 (w.heap.size + 1) 33 #[.int .i64 o.code, .int .i64 o.acc, .int .i64 o.ast, .int .i64 o.qty, .int .i64 o.name, .int .i64 o.id, .slice LA o.legs.length lc, .slice PA o.pairs.length pc] := by
    rw [← hW0, show w.heap.size + 1 = (w.alloc (.cells #[.int .i64 c0, .int .i64 c1, .int .i64 c2, .int .i64 c3, .int .i64 c4] 23)).heap.size by simp]
    exact Blk.new _ _ _
  have hb0 : Below w.heap.size w W0 := hW0 ▸ ((Below.refl _ _).alloc (Nat.le_refl _) _).alloc (by simp) _
  have k0 : W0.cell? ⟨w.heap.size, 0, none⟩ = some (.int .i64 c0) := b0.cell 0
  have k1 : W0.cell? ⟨w.heap.size, 1, none⟩ = some (.int .i64 c1) := b0.cell 1
  have l0 : W0.cell? ⟨w.heap.size + 1, 0, none⟩ = some (.int .i64 o.code) := b1.cell 0
  have l1 : W0.cell? ⟨w.heap.size + 1, 1, none⟩ = some (.int .i64 o.acc) := b1.cell 1
  have l2 : W0.cell? ⟨w.heap.size + 1, 2, none⟩ = some (.int .i64 o.ast) := b1.cell 2
  have l3 : W0.cell? ⟨w.heap.size + 1, 3, none⟩ = some (.int .i64 o.qty) := b1.cell 3
  have l4 : W0.cell? ⟨w.heap.size + 1, 4, none⟩ = some (.int .i64 o.name) := b1.cell 4
  have l5 : W0.cell? ⟨w.heap.size + 1, 5, none⟩ = some (.int .i64 o.id) := b1.cell 5
  have l6 : W0.cell? ⟨w.heap.size + 1, 6, none⟩ = some (.slice LA o.legs.length lc) := b1.cell 6
  have l7 : W0.cell? ⟨w.heap.size + 1, 7, none⟩ = some (.slice PA o.pairs.length pc) := b1.cell 7
  rw [HC.out] at l0
  clear HC
  rw [hW0]
  clear b0 b1 hW0
  go_wp2_with (first | (go_at_call 40; refine (within_calls _ _ _ _).mono ?_; rintro e w' ⟨rfl, rfl⟩) | (go_at_call 42; refine (unless_calls _ _ _).mono ?_; rintro e w' ⟨rfl, rfl⟩))
  refine region_tail 12 (by kernel_rfl) (by kernel_rfl) ?_
  simp only [List.take_succ_cons, List.take_zero, List.drop_succ_cons, List.drop_zero]
  repeat still_step
  still_call (calls_same (check1_calls _ c0 _ _ k0))
  repeat still_step
  still_call (calls_same (check2_calls _ c1 _ _ k1))
  repeat still_step
  still_call (calls_same (unless_calls _ _ _))
  repeat still_step
  refine wpStill_nil ?_
  clear k0 k1 l0 l1 l2 l3 l4 l5 l6 l7
  obtain ⟨W1, hW1⟩ : ∃ W1, W0.drew = W1 := ⟨_, rfl⟩
  have hb1 : Below w.heap.size w W1 := hW1 ▸ hb0.drew
  rw [hW1]
  clear hW1 hb0
  go_wp2_with (go_at_call 41; refine (fault_new3 _ _ _ _ _ ?_).mono ?_; (simp); rintro e w1 ⟨rfl, hb⟩)
  go_ret
  exact ⟨rfl, hb1.trans (hb.mono hb1.size)⟩

set_option maxRecDepth 100000 in
set_option maxHeartbeats 4000000 in
theorem check3 (c0 c1 c2 c3 c4 : Int) (o : Op) (LA PA : Option Addr) (lc pc : Nat) (w : World) (hc : o.code = 3) :
    Calls Tryd.prog 23 #[.agg #[.int .i64 c0, .int .i64 c1, .int .i64 c2, .int .i64 c3, .int .i64 c4], .agg #[.int .i64 o.code, .int .i64 o.acc, .int .i64 o.ast, .int .i64 o.qty, .int .i64 o.name, .int .i64 o.id, .slice LA o.legs.length lc, .slice PA o.pairs.length pc]] w fun e w' => e = .returned (errV (firstNZ [unlessN (belowB o.acc c0) 14, unlessN (belowB o.ast c1) 15, unlessN (decide (0 < o.qty)) 16, unlessN (withinB o.name 1 65536) 19])) ∧ Below w.heap.size w w' := by
  have HC := Lib.hid hc
  clear hc
  go_enter Tryd.func23, Tryd.ntmps23
  go_wp2_with (fail)
  obtain ⟨W0, hW0⟩ : ∃ W0, (w.alloc (.cells #[.int .i64 c0, .int .i64 c1, .int .i64 c2, .int .i64 c3, .int .i64 c4] 23)).alloc (.cells #[.int .i64 o.code, .int .i64 o.acc, .int .i64 o.ast, .int .i64 o.qty, .int .i64 o.name, .int .i64 o.id, .slice LA o.legs.length lc, .slice PA o.pairs.length pc] 33) = W0 := ⟨_, rfl⟩
  have b0 : Blk W0 w.heap.size 23 #[.int .i64 c0, .int .i64 c1, .int .i64 c2, .int .i64 c3, .int .i64 c4] := hW0 ▸ (Blk.new _ _ _).alloc _
  have b1 : Blk W0 (w.heap.size + 1) 33 #[.int .i64 o.code, .int .i64 o.acc, .int .i64 o.ast, .int .i64 o.qty, .int .i64 o.name, .int .i64 o.id, .slice LA o.legs.length lc, .slice PA o.pairs.length pc] := by
    rw [← hW0, show w.heap.size + 1 = (w.alloc (.cells #[.int .i64 c0, .int .i64 c1, .int .i64 c2, .int .i64 c3, .int .i64 c4] 23)).heap.size by simp]
    exact Blk.new _ _ _
  have hb0 : Below w.heap.size w W0 := hW0 ▸ ((Below.refl _ _).alloc (Nat.le_refl _) _).alloc (by simp) _
  have k0 : W0.cell? ⟨w.heap.size, 0, none⟩ = some (.int .i64 c0) := b0.cell 0
  have k1 : W0.cell? ⟨w.heap.size, 1, none⟩ = some (.int .i64 c1) := b0.cell 1
  have l0 : W0.cell? ⟨w.heap.size + 1, 0, none⟩ = some (.int .i64 o.code) := b1.cell 0
  have l1 : W0.cell? ⟨w.heap.size + 1, 1, none⟩ = some (.int .i64 o.acc) := b1.cell 1
  have l2 : W0.cell? ⟨w.heap.size + 1, 2, none⟩ = some (.int .i64 o.ast) := b1.cell 2
  have l3 : W0.cell? ⟨w.heap.size + 1, 3, none⟩ = some (.int .i64 o.qty) := b1.cell 3
  have l4 : W0.cell? ⟨w.heap.size + 1, 4, none⟩ = some (.int .i64 o.name) := b1.cell 4
  have l5 : W0.cell? ⟨w.heap.size + 1, 5, none⟩ = some (.int .i64 o.id) := b1.cell 5
  have l6 : W0.cell? ⟨w.heap.size + 1, 6, none⟩ = some (.slice LA o.legs.length lc) := b1.cell 6
  have l7 : W0.cell? ⟨w.heap.size + 1, 7, none⟩ = some (.slice PA o.pairs.length pc) := b1.cell 7
  rw [HC.out] at l0
  clear HC
  rw [hW0]
  clear b0 b1 hW0
  go_wp2_with (first | (go_at_call 40; refine (within_calls _ _ _ _).mono ?_; rintro e w' ⟨rfl, rfl⟩) | (go_at_call 42; refine (unless_calls _ _ _).mono ?_; rintro e w' ⟨rfl, rfl⟩))
  refine region_tail 16 (by kernel_rfl) (by kernel_rfl) ?_
  simp only [List.take_succ_cons, List.take_zero, List.drop_succ_cons, List.drop_zero]
  repeat still_step
  still_call (calls_same (check1_calls _ c0 _ _ k0))
  repeat still_step
  still_call (calls_same (check2_calls _ c1 _ _ k1))
  repeat still_step
  still_call (calls_same (unless_calls _ _ _))
  repeat still_step
  still_call (calls_same (within_calls _ _ _ _))
  repeat still_step
  still_call (calls_same (unless_calls _ _ _))
  repeat still_step
  refine wpStill_nil ?_
  clear k0 k1 l0 l1 l2 l3 l4 l5 l6 l7
  obtain ⟨W1, hW1⟩ : ∃ W1, W0.drew = W1 := ⟨_, rfl⟩
  have hb1 : Below w.heap.size w W1 := hW1 ▸ hb0.drew
  rw [hW1]
  clear hW1 hb0
  go_wp2_with (go_at_call 41; refine (fault_new4 _ _ _ _ _ _ ?_).mono ?_; (simp); rintro e w1 ⟨rfl, hb⟩)
  go_ret
  exact ⟨rfl, hb1.trans (hb.mono hb1.size)⟩

set_option maxRecDepth 100000 in
set_option maxHeartbeats 4000000 in
theorem check4 (c0 c1 c2 c3 c4 : Int) (o : Op) (LA PA : Option Addr) (lc pc : Nat) (w : World) (hc : o.code = 4) :
    Calls Tryd.prog 23 #[.agg #[.int .i64 c0, .int .i64 c1, .int .i64 c2, .int .i64 c3, .int .i64 c4], .agg #[.int .i64 o.code, .int .i64 o.acc, .int .i64 o.ast, .int .i64 o.qty, .int .i64 o.name, .int .i64 o.id, .slice LA o.legs.length lc, .slice PA o.pairs.length pc]] w fun e w' => e = .returned (errV (firstNZ [unlessN (belowB o.acc c0) 14, unlessN (belowB o.ast c1) 15, unlessN (decide (0 < o.qty)) 16, unlessN (withinB o.name 1 65536) 19])) ∧ Below w.heap.size w w' := by
  have HC := Lib.hid hc
  clear hc
  go_enter Tryd.func23, Tryd.ntmps23
  go_wp2_with (fail)
  obtain ⟨W0, hW0⟩ : ∃ W0, (w.alloc (.cells #[.int .i64 c0, .int .i64 c1, .int .i64 c2, .int .i64 c3, .int .i64 c4] 23)).alloc (.cells #[.int .i64 o.code, .int .i64 o.acc, .int .i64 o.ast, .int .i64 o.qty, .int .i64 o.name, .int .i64 o.id, .slice LA o.legs.length lc, .slice PA o.pairs.length pc] 33) = W0 := ⟨_, rfl⟩
  have b0 : Blk W0 w.heap.size 23 #[.int .i64 c0, .int .i64 c1, .int .i64 c2, .int .i64 c3, .int .i64 c4] := hW0 ▸ (Blk.new _ _ _).alloc _
  have b1 : Blk W0 (w.heap.size + 1) 33 #[.int .i64 o.code, .int .i64 o.acc, .int .i64 o.ast, .int .i64 o.qty, .int .i64 o.name, .int .i64 o.id, .slice LA o.legs.length lc, .slice PA o.pairs.length pc] := by
    rw [← hW0, show w.heap.size + 1 = (w.alloc (.cells #[.int .i64 c0, .int .i64 c1, .int .i64 c2, .int .i64 c3, .int .i64 c4] 23)).heap.size by simp]
    exact Blk.new _ _ _
  have hb0 : Below w.heap.size w W0 := hW0 ▸ ((Below.refl _ _).alloc (Nat.le_refl _) _).alloc (by simp) _
  have k0 : W0.cell? ⟨w.heap.size, 0, none⟩ = some (.int .i64 c0) := b0.cell 0
  have k1 : W0.cell? ⟨w.heap.size, 1, none⟩ = some (.int .i64 c1) := b0.cell 1
  have l0 : W0.cell? ⟨w.heap.size + 1, 0, none⟩ = some (.int .i64 o.code) := b1.cell 0
  have l1 : W0.cell? ⟨w.heap.size + 1, 1, none⟩ = some (.int .i64 o.acc) := b1.cell 1
  have l2 : W0.cell? ⟨w.heap.size + 1, 2, none⟩ = some (.int .i64 o.ast) := b1.cell 2
  have l3 : W0.cell? ⟨w.heap.size + 1, 3, none⟩ = some (.int .i64 o.qty) := b1.cell 3
  have l4 : W0.cell? ⟨w.heap.size + 1, 4, none⟩ = some (.int .i64 o.name) := b1.cell 4
  have l5 : W0.cell? ⟨w.heap.size + 1, 5, none⟩ = some (.int .i64 o.id) := b1.cell 5
  have l6 : W0.cell? ⟨w.heap.size + 1, 6, none⟩ = some (.slice LA o.legs.length lc) := b1.cell 6
  have l7 : W0.cell? ⟨w.heap.size + 1, 7, none⟩ = some (.slice PA o.pairs.length pc) := b1.cell 7
  rw [HC.out] at l0
  clear HC
  rw [hW0]
  clear b0 b1 hW0
  go_wp2_with (first | (go_at_call 40; refine (within_calls _ _ _ _).mono ?_; rintro e w' ⟨rfl, rfl⟩) | (go_at_call 42; refine (unless_calls _ _ _).mono ?_; rintro e w' ⟨rfl, rfl⟩))
  refine region_tail 16 (by kernel_rfl) (by kernel_rfl) ?_
  simp only [List.take_succ_cons, List.take_zero, List.drop_succ_cons, List.drop_zero]
  repeat still_step
  still_call (calls_same (check1_calls _ c0 _ _ k0))
  repeat still_step
  still_call (calls_same (check2_calls _ c1 _ _ k1))
  repeat still_step
  still_call (calls_same (unless_calls _ _ _))
  repeat still_step
  still_call (calls_same (within_calls _ _ _ _))
  repeat still_step
  still_call (calls_same (unless_calls _ _ _))
  repeat still_step
  refine wpStill_nil ?_
  clear k0 k1 l0 l1 l2 l3 l4 l5 l6 l7
  obtain ⟨W1, hW1⟩ : ∃ W1, W0.drew = W1 := ⟨_, rfl⟩
  have hb1 : Below w.heap.size w W1 := hW1 ▸ hb0.drew
  rw [hW1]
  clear hW1 hb0
  go_wp2_with (go_at_call 41; refine (fault_new4 _ _ _ _ _ _ ?_).mono ?_; (simp); rintro e w1 ⟨rfl, hb⟩)
  go_ret
  exact ⟨rfl, hb1.trans (hb.mono hb1.size)⟩

set_option maxRecDepth 100000 in
set_option maxHeartbeats 4000000 in
theorem check6 (c0 c1 c2 c3 c4 : Int) (o : Op) (LA PA : Option Addr) (lc pc : Nat) (w : World) (hc : o.code = 6) :
    Calls Tryd.prog 23 #[.agg #[.int .i64 c0, .int .i64 c1, .int .i64 c2, .int .i64 c3, .int .i64 c4], .agg #[.int .i64 o.code, .int .i64 o.acc, .int .i64 o.ast, .int .i64 o.qty, .int .i64 o.name, .int .i64 o.id, .slice LA o.legs.length lc, .slice PA o.pairs.length pc]] w fun e w' => e = .returned (errV (firstNZ [idN o.id])) ∧ Below w.heap.size w w' := by
  have HC := Lib.hid hc
  clear hc
  go_enter Tryd.func23, Tryd.ntmps23
  go_wp2_with (fail)
  obtain ⟨W0, hW0⟩ : ∃ W0, (w.alloc (.cells #[.int .i64 c0, .int .i64 c1, .int .i64 c2, .int .i64 c3, .int .i64 c4] 23)).alloc (.cells #[.int .i64 o.code, .int .i64 o.acc, .int .i64 o.ast, .int .i64 o.qty, .int .i64 o.name, .int .i64 o.id, .slice LA o.legs.length lc, .slice PA o.pairs.length pc] 33) = W0 := ⟨_, rfl⟩
  have b0 : Blk W0 w.heap.size 23 #[.int .i64 c0, .int .i64 c1, .int .i64 c2, .int .i64 c3, .int .i64 c4] := hW0 ▸ (Blk.new _ _ _).alloc _
  have b1 : Blk W0 (w.heap.size + 1) 33 #[.int .i64 o.code, .int .i64 o.acc, .int .i64 o.ast, .int .i64 o.qty, .int .i64 o.name, .int .i64 o.id, .slice LA o.legs.length lc, .slice PA o.pairs.length pc] := by
    rw [← hW0, show w.heap.size + 1 = (w.alloc (.cells #[.int .i64 c0, .int .i64 c1, .int .i64 c2, .int .i64 c3, .int .i64 c4] 23)).heap.size by simp]
    exact Blk.new _ _ _
  have hb0 : Below w.heap.size w W0 := hW0 ▸ ((Below.refl _ _).alloc (Nat.le_refl _) _).alloc (by simp) _
  have k0 : W0.cell? ⟨w.heap.size, 0, none⟩ = some (.int .i64 c0) := b0.cell 0
  have k1 : W0.cell? ⟨w.heap.size, 1, none⟩ = some (.int .i64 c1) := b0.cell 1
  have l0 : W0.cell? ⟨w.heap.size + 1, 0, none⟩ = some (.int .i64 o.code) := b1.cell 0
  have l1 : W0.cell? ⟨w.heap.size + 1, 1, none⟩ = some (.int .i64 o.acc) := b1.cell 1
  have l2 : W0.cell? ⟨w.heap.size + 1, 2, none⟩ = some (.int .i64 o.ast) := b1.cell 2
  have l3 : W0.cell? ⟨w.heap.size + 1, 3, none⟩ = some (.int .i64 o.qty) := b1.cell 3
  have l4 : W0.cell? ⟨w.heap.size + 1, 4, none⟩ = some (.int .i64 o.name) := b1.cell 4
  have l5 : W0.cell? ⟨w.heap.size + 1, 5, none⟩ = some (.int .i64 o.id) := b1.cell 5
  have l6 : W0.cell? ⟨w.heap.size + 1, 6, none⟩ = some (.slice LA o.legs.length lc) := b1.cell 6
  have l7 : W0.cell? ⟨w.heap.size + 1, 7, none⟩ = some (.slice PA o.pairs.length pc) := b1.cell 7
  rw [HC.out] at l0
  clear HC
  rw [hW0]
  clear b0 b1 hW0
  have hbw := Lib.hid hb0
  clear hb0
  go_wp2_with (first | (go_at_call 40; refine (within_calls _ _ _ _).mono ?_; rintro e w' ⟨rfl, rfl⟩) | (go_at_call 42; refine (unless_calls _ _ _).mono ?_; rintro e w' ⟨rfl, rfl⟩) | (go_at_call 41; refine (fault_new1 _ _ _ ?_).mono ?_; (simp); rintro e w1 ⟨rfl, hb⟩))
  go_ret
  exact ⟨rfl, hbw.out.trans (hb.mono hbw.out.size)⟩

set_option maxRecDepth 100000 in
set_option maxHeartbeats 4000000 in
theorem check7 (c0 c1 c2 c3 c4 : Int) (o : Op) (LA PA : Option Addr) (lc pc : Nat) (w : World) (hc : o.code = 7) :
    Calls Tryd.prog 23 #[.agg #[.int .i64 c0, .int .i64 c1, .int .i64 c2, .int .i64 c3, .int .i64 c4], .agg #[.int .i64 o.code, .int .i64 o.acc, .int .i64 o.ast, .int .i64 o.qty, .int .i64 o.name, .int .i64 o.id, .slice LA o.legs.length lc, .slice PA o.pairs.length pc]] w fun e w' => e = .returned (errV (firstNZ [idN o.id])) ∧ Below w.heap.size w w' := by
  have HC := Lib.hid hc
  clear hc
  go_enter Tryd.func23, Tryd.ntmps23
  go_wp2_with (fail)
  obtain ⟨W0, hW0⟩ : ∃ W0, (w.alloc (.cells #[.int .i64 c0, .int .i64 c1, .int .i64 c2, .int .i64 c3, .int .i64 c4] 23)).alloc (.cells #[.int .i64 o.code, .int .i64 o.acc, .int .i64 o.ast, .int .i64 o.qty, .int .i64 o.name, .int .i64 o.id, .slice LA o.legs.length lc, .slice PA o.pairs.length pc] 33) = W0 := ⟨_, rfl⟩
  have b0 : Blk W0 w.heap.size 23 #[.int .i64 c0, .int .i64 c1, .int .i64 c2, .int .i64 c3, .int .i64 c4] := hW0 ▸ (Blk.new _ _ _).alloc _
  have b1 : Blk W0 (w.heap.size + 1) 33 #[.int .i64 o.code, .int .i64 o.acc, .int .i64 o.ast, .int .i64 o.qty, .int .i64 o.name, .int .i64 o.id, .slice LA o.legs.length lc, .slice PA o.pairs.length pc] := by
    rw [← hW0, show w.heap.size + 1 = (w.alloc (.cells #[.int .i64 c0, .int .i64 c1, .int .i64 c2, .int .i64 c3, .int .i64 c4] 23)).heap.size by simp]
    exact Blk.new _ _ _
  have hb0 : Below w.heap.size w W0 := hW0 ▸ ((Below.refl _ _).alloc (Nat.le_refl _) _).alloc (by simp) _
  have k0 : W0.cell? ⟨w.heap.size, 0, none⟩ = some (.int .i64 c0) := b0.cell 0
  have k1 : W0.cell? ⟨w.heap.size, 1, none⟩ = some (.int .i64 c1) := b0.cell 1
  have l0 : W0.cell? ⟨w.heap.size + 1, 0, none⟩ = some (.int .i64 o.code) := b1.cell 0
  have l1 : W0.cell? ⟨w.heap.size + 1, 1, none⟩ = some (.int .i64 o.acc) := b1.cell 1
  have l2 : W0.cell? ⟨w.heap.size + 1, 2, none⟩ = some (.int .i64 o.ast) := b1.cell 2
  have l3 : W0.cell? ⟨w.heap.size + 1, 3, none⟩ = some (.int .i64 o.qty) := b1.cell 3
  have l4 : W0.cell? ⟨w.heap.size + 1, 4, none⟩ = some (.int .i64 o.name) := b1.cell 4
  have l5 : W0.cell? ⟨w.heap.size + 1, 5, none⟩ = some (.int .i64 o.id) := b1.cell 5
  have l6 : W0.cell? ⟨w.heap.size + 1, 6, none⟩ = some (.slice LA o.legs.length lc) := b1.cell 6
  have l7 : W0.cell? ⟨w.heap.size + 1, 7, none⟩ = some (.slice PA o.pairs.length pc) := b1.cell 7
  rw [HC.out] at l0
  clear HC
  rw [hW0]
  clear b0 b1 hW0
  have hbw := Lib.hid hb0
  clear hb0
  go_wp2_with (first | (go_at_call 40; refine (within_calls _ _ _ _).mono ?_; rintro e w' ⟨rfl, rfl⟩) | (go_at_call 42; refine (unless_calls _ _ _).mono ?_; rintro e w' ⟨rfl, rfl⟩) | (go_at_call 41; refine (fault_new1 _ _ _ ?_).mono ?_; (simp); rintro e w1 ⟨rfl, hb⟩))
  go_ret
  exact ⟨rfl, hbw.out.trans (hb.mono hbw.out.size)⟩

set_option maxRecDepth 100000 in
set_option maxHeartbeats 4000000 in
theorem check_other (c0 c1 c2 c3 c4 : Int) (o : Op) (LA PA : Option Addr) (lc pc : Nat) (w : World) (h1 : o.code ≠ 1) (h2 : o.code ≠ 2) (h3 : o.code ≠ 3) (h4 : o.code ≠ 4) (h5 : o.code ≠ 5) (h6 : o.code ≠ 6) (h7 : o.code ≠ 7) (h8 : o.code ≠ 8) :
    Calls Tryd.prog 23 #[.agg #[.int .i64 c0, .int .i64 c1, .int .i64 c2, .int .i64 c3, .int .i64 c4], .agg #[.int .i64 o.code, .int .i64 o.acc, .int .i64 o.ast, .int .i64 o.qty, .int .i64 o.name, .int .i64 o.id, .slice LA o.legs.length lc, .slice PA o.pairs.length pc]] w fun e w' => e = .returned (errV (13)) ∧ Below w.heap.size w w' := by
  have q1 : ((o.code : Int) == 1) = false := by simpa using h1
  have q2 : ((o.code : Int) == 2) = false := by simpa using h2
  have q3 : ((o.code : Int) == 3) = false := by simpa using h3
  have q4 : ((o.code : Int) == 4) = false := by simpa using h4
  have q5 : ((o.code : Int) == 5) = false := by simpa using h5
  have q6 : ((o.code : Int) == 6) = false := by simpa using h6
  have q7 : ((o.code : Int) == 7) = false := by simpa using h7
  have q8 : ((o.code : Int) == 8) = false := by simpa using h8
  clear h1 h2 h3 h4 h5 h6 h7 h8
  go_enter Tryd.func23, Tryd.ntmps23
  go_wp2_with (fail)
  obtain ⟨W0, hW0⟩ : ∃ W0, (w.alloc (.cells #[.int .i64 c0, .int .i64 c1, .int .i64 c2, .int .i64 c3, .int .i64 c4] 23)).alloc (.cells #[.int .i64 o.code, .int .i64 o.acc, .int .i64 o.ast, .int .i64 o.qty, .int .i64 o.name, .int .i64 o.id, .slice LA o.legs.length lc, .slice PA o.pairs.length pc] 33) = W0 := ⟨_, rfl⟩
  have b0 : Blk W0 w.heap.size 23 #[.int .i64 c0, .int .i64 c1, .int .i64 c2, .int .i64 c3, .int .i64 c4] := hW0 ▸ (Blk.new _ _ _).alloc _
  have b1 : Blk W0 (w.heap.size + 1) 33 #[.int .i64 o.code, .int .i64 o.acc, .int .i64 o.ast, .int .i64 o.qty, .int .i64 o.name, .int .i64 o.id, .slice LA o.legs.length lc, .slice PA o.pairs.length pc] := by
    rw [← hW0, show w.heap.size + 1 = (w.alloc (.cells #[.int .i64 c0, .int .i64 c1, .int .i64 c2, .int .i64 c3, .int .i64 c4] 23)).heap.size by simp]
    exact Blk.new _ _ _
  have hb0 : Below w.heap.size w W0 := hW0 ▸ ((Below.refl _ _).alloc (Nat.le_refl _) _).alloc (by simp) _
  have k0 : W0.cell? ⟨w.heap.size, 0, none⟩ = some (.int .i64 c0) := b0.cell 0
  have k1 : W0.cell? ⟨w.heap.size, 1, none⟩ = some (.int .i64 c1) := b0.cell 1
  have l0 : W0.cell? ⟨w.heap.size + 1, 0, none⟩ = some (.int .i64 o.code) := b1.cell 0
  have l1 : W0.cell? ⟨w.heap.size + 1, 1, none⟩ = some (.int .i64 o.acc) := b1.cell 1
  have l2 : W0.cell? ⟨w.heap.size + 1, 2, none⟩ = some (.int .i64 o.ast) := b1.cell 2
  have l3 : W0.cell? ⟨w.heap.size + 1, 3, none⟩ = some (.int .i64 o.qty) := b1.cell 3
  have l4 : W0.cell? ⟨w.heap.size + 1, 4, none⟩ = some (.int .i64 o.name) := b1.cell 4
  have l5 : W0.cell? ⟨w.heap.size + 1, 5, none⟩ = some (.int .i64 o.id) := b1.cell 5
  have l6 : W0.cell? ⟨w.heap.size + 1, 6, none⟩ = some (.slice LA o.legs.length lc) := b1.cell 6
  have l7 : W0.cell? ⟨w.heap.size + 1, 7, none⟩ = some (.slice PA o.pairs.length pc) := b1.cell 7
  rw [hW0]
  clear b0 b1 hW0
  have hbw := Lib.hid hb0
  clear hb0
  go_wp2_with (first | (go_at_call 40; refine (within_calls _ _ _ _).mono ?_; rintro e w' ⟨rfl, rfl⟩) | (go_at_call 42; refine (unless_calls _ _ _).mono ?_; rintro e w' ⟨rfl, rfl⟩))
  go_ret
  exact ⟨rfl, hbw.out⟩

theorem allN_drop {α : Type} (f : α → Int) (l : List α) (k : Nat) (hk : k < l.length) : allN f (l.drop k) = if f l[k] = 0 then allN f (l.drop (k + 1)) else f l[k] := by
  rw [List.drop_eq_getElem_cons hk]; rfl

set_option maxRecDepth 100000 in
set_option maxHeartbeats 4000000 in
theorem check8_many (c0 c1 c2 c3 c4 : Int) (o : Op) (LA PA : Option Addr) (lc pc : Nat) (w : World) (hc : o.code = 8) (hn : ¬ o.pairs.length ≤ 64) :
    Calls Tryd.prog 23 #[.agg #[.int .i64 c0, .int .i64 c1, .int .i64 c2, .int .i64 c3, .int .i64 c4], .agg #[.int .i64 o.code, .int .i64 o.acc, .int .i64 o.ast, .int .i64 o.qty, .int .i64 o.name, .int .i64 o.id, .slice LA o.legs.length lc, .slice PA o.pairs.length pc]] w fun e w' => e = .returned (errV (5)) ∧ Below w.heap.size w w' := by
  have HC := Lib.hid hc
  clear hc
  go_enter Tryd.func23, Tryd.ntmps23
  go_wp2_with (fail)
  obtain ⟨W0, hW0⟩ : ∃ W0, (w.alloc (.cells #[.int .i64 c0, .int .i64 c1, .int .i64 c2, .int .i64 c3, .int .i64 c4] 23)).alloc (.cells #[.int .i64 o.code, .int .i64 o.acc, .int .i64 o.ast, .int .i64 o.qty, .int .i64 o.name, .int .i64 o.id, .slice LA o.legs.length lc, .slice PA o.pairs.length pc] 33) = W0 := ⟨_, rfl⟩
  have b0 : Blk W0 w.heap.size 23 #[.int .i64 c0, .int .i64 c1, .int .i64 c2, .int .i64 c3, .int .i64 c4] := hW0 ▸ (Blk.new _ _ _).alloc _
  have b1 : Blk W0 (w.heap.size + 1) 33 #[.int .i64 o.code, .int .i64 o.acc, .int .i64 o.ast, .int .i64 o.qty, .int .i64 o.name, .int .i64 o.id, .slice LA o.legs.length lc, .slice PA o.pairs.length pc] := by
    rw [← hW0, show w.heap.size + 1 = (w.alloc (.cells #[.int .i64 c0, .int .i64 c1, .int .i64 c2, .int .i64 c3, .int .i64 c4] 23)).heap.size by simp]
    exact Blk.new _ _ _
  have hb0 : Below w.heap.size w W0 := hW0 ▸ ((Below.refl _ _).alloc (Nat.le_refl _) _).alloc (by simp) _
  have k0 : W0.cell? ⟨w.heap.size, 0, none⟩ = some (.int .i64 c0) := b0.cell 0
  have k1 : W0.cell? ⟨w.heap.size, 1, none⟩ = some (.int .i64 c1) := b0.cell 1
  have l0 : W0.cell? ⟨w.heap.size + 1, 0, none⟩ = some (.int .i64 o.code) := b1.cell 0
  have l1 : W0.cell? ⟨w.heap.size + 1, 1, none⟩ = some (.int .i64 o.acc) := b1.cell 1
  have l2 : W0.cell? ⟨w.heap.size + 1, 2, none⟩ = some (.int .i64 o.ast) := b1.cell 2
  have l3 : W0.cell? ⟨w.heap.size + 1, 3, none⟩ = some (.int .i64 o.qty) := b1.cell 3
  have l4 : W0.cell? ⟨w.heap.size + 1, 4, none⟩ = some (.int .i64 o.name) := b1.cell 4
  have l5 : W0.cell? ⟨w.heap.size + 1, 5, none⟩ = some (.int .i64 o.id) := b1.cell 5
  have l6 : W0.cell? ⟨w.heap.size + 1, 6, none⟩ = some (.slice LA o.legs.length lc) := b1.cell 6
  have l7 : W0.cell? ⟨w.heap.size + 1, 7, none⟩ = some (.slice PA o.pairs.length pc) := b1.cell 7
  rw [HC.out] at l0
  clear HC
  rw [hW0]
  clear b0 b1 hW0
  have hbw := Lib.hid hb0
  clear hb0
  go_wp2_with (first | (go_at_call 40; refine (within_calls _ _ _ _).mono ?_; rintro e w' ⟨rfl, rfl⟩) | (go_at_call 42; refine (unless_calls _ _ _).mono ?_; rintro e w' ⟨rfl, rfl⟩))
  go_ret
  exact ⟨rfl, hbw.out⟩

set_option maxRecDepth 100000 in
set_option maxHeartbeats 4000000 in
theorem check8 (c0 c1 c2 c3 c4 : Int) (o : Op) (LA PA : Option Addr) (lc pc : Nat) (w : World) (hc : o.code = 8) (hn : o.pairs.length ≤ 64) (hr : Reads w w.heap.size 2 PA o.pairs.length (keysC o.pairs)) :
    Calls Tryd.prog 23 #[.agg #[.int .i64 c0, .int .i64 c1, .int .i64 c2, .int .i64 c3, .int .i64 c4], .agg #[.int .i64 o.code, .int .i64 o.acc, .int .i64 o.ast, .int .i64 o.qty, .int .i64 o.name, .int .i64 o.id, .slice LA o.legs.length lc, .slice PA o.pairs.length pc]] w fun e w' => e = .returned (errV (allN (Key.N c0 c1) o.pairs)) ∧ Below w.heap.size w w' := by
  have HC := Lib.hid hc
  clear hc
  go_enter Tryd.func23, Tryd.ntmps23
  go_wp2_with (fail)
  obtain ⟨W0, hW0⟩ : ∃ W0, (w.alloc (.cells #[.int .i64 c0, .int .i64 c1, .int .i64 c2, .int .i64 c3, .int .i64 c4] 23)).alloc (.cells #[.int .i64 o.code, .int .i64 o.acc, .int .i64 o.ast, .int .i64 o.qty, .int .i64 o.name, .int .i64 o.id, .slice LA o.legs.length lc, .slice PA o.pairs.length pc] 33) = W0 := ⟨_, rfl⟩
  have b0 : Blk W0 w.heap.size 23 #[.int .i64 c0, .int .i64 c1, .int .i64 c2, .int .i64 c3, .int .i64 c4] := hW0 ▸ (Blk.new _ _ _).alloc _
  have b1 : Blk W0 (w.heap.size + 1) 33 #[.int .i64 o.code, .int .i64 o.acc, .int .i64 o.ast, .int .i64 o.qty, .int .i64 o.name, .int .i64 o.id, .slice LA o.legs.length lc, .slice PA o.pairs.length pc] := by
    rw [← hW0, show w.heap.size + 1 = (w.alloc (.cells #[.int .i64 c0, .int .i64 c1, .int .i64 c2, .int .i64 c3, .int .i64 c4] 23)).heap.size by simp]
    exact Blk.new _ _ _
  have hb0 : Below w.heap.size w W0 := hW0 ▸ ((Below.refl _ _).alloc (Nat.le_refl _) _).alloc (by simp) _
  have k0 : W0.cell? ⟨w.heap.size, 0, none⟩ = some (.int .i64 c0) := b0.cell 0
  have k1 : W0.cell? ⟨w.heap.size, 1, none⟩ = some (.int .i64 c1) := b0.cell 1
  have l0 : W0.cell? ⟨w.heap.size + 1, 0, none⟩ = some (.int .i64 o.code) := b1.cell 0
  have l1 : W0.cell? ⟨w.heap.size + 1, 1, none⟩ = some (.int .i64 o.acc) := b1.cell 1
  have l2 : W0.cell? ⟨w.heap.size + 1, 2, none⟩ = some (.int .i64 o.ast) := b1.cell 2
  have l3 : W0.cell? ⟨w.heap.size + 1, 3, none⟩ = some (.int .i64 o.qty) := b1.cell 3
  have l4 : W0.cell? ⟨w.heap.size + 1, 4, none⟩ = some (.int .i64 o.name) := b1.cell 4
  have l5 : W0.cell? ⟨w.heap.size + 1, 5, none⟩ = some (.int .i64 o.id) := b1.cell 5
  have l6 : W0.cell? ⟨w.heap.size + 1, 6, none⟩ = some (.slice LA o.legs.length lc) := b1.cell 6
  have l7 : W0.cell? ⟨w.heap.size + 1, 7, none⟩ = some (.slice PA o.pairs.length pc) := b1.cell 7
  rw [HC.out] at l0
  clear HC
  have hr0 := hr.below hb0
  have hs0 : W0.heap.size = w.heap.size + 1 + 1 := by rw [← hW0]; simp
  have HS := Lib.hid hs0
  clear hs0
  rw [hW0]
  clear b0 b1 hW0
  go_wp2_with (first | (go_at_call 40; refine (within_calls _ _ _ _).mono ?_; rintro e w' ⟨rfl, rfl⟩) | (go_at_call 42; refine (unless_calls _ _ _).mono ?_; rintro e w' ⟨rfl, rfl⟩))
  have HB := Lib.hid hb0
  clear l0 l1 l2 l3 l4 l5 l6 l7 hb0 hr
  go_loopw [109] (fun i wr => ∃ k : Nat, k ≤ o.pairs.length ∧ i = .int .i64 k ∧ allN (Key.N c0 c1) (o.pairs.drop k) = allN (Key.N c0 c1) o.pairs ∧ InB W0 wr) (fun i _ => o.pairs.length - (intOf i).toNat)
  case atStart => exact ⟨0, Nat.zero_le _, rfl, rfl, Below.refl _ _⟩
  case round =>
    obtain ⟨k, hk, rfl, hf, hin⟩ := hrel
    have HF := Lib.hid hf
    clear hf
    by_cases hlt : k < o.pairs.length
    · obtain ⟨ad, rfl, hadb, e0, e1⟩ := keys_at (hr0.below (show Below w.heap.size W0 wr from hin.mono HB.out.size)) hlt
      have hd := allN_drop (Key.N c0 c1) o.pairs k hlt
      have HD := Lib.hid hd
      clear hd hr0
      generalize hx : o.pairs[k] = x at e0 e1 HD
      have HX := Lib.hid hx
      clear hx
      have hszw : w.heap.size + 1 < wr.heap.size := by
        have h1 := hin.size
        have h2 := HS.out
        omega
      have k0' := hin.cell k0
      have k1' := hin.cell k1
      clear k0 k1
      go_wp2_with (fail)
      obtain ⟨W1, hW1⟩ : ∃ W1, wr.alloc (.cells #[.int .i64 x.acc, .int .i64 x.ast] 47) = W1 := ⟨_, rfl⟩
      have b2 : Blk W1 wr.heap.size 47 #[.int .i64 x.acc, .int .i64 x.ast] := hW1 ▸ Blk.new _ _ _
      have hbr : Below wr.heap.size wr W1 := hW1 ▸ (Below.refl _ _).alloc (Nat.le_refl _) _
      have m0 : W1.cell? ⟨w.heap.size, 0, none⟩ = some (.int .i64 c0) := (hbr.cell (p := ⟨w.heap.size, 0, none⟩) (by simp; omega)).trans k0'
      have m1 : W1.cell? ⟨w.heap.size, 1, none⟩ = some (.int .i64 c1) := (hbr.cell (p := ⟨w.heap.size, 1, none⟩) (by simp; omega)).trans k1'
      have n0 : W1.cell? ⟨wr.heap.size, 0, none⟩ = some (.int .i64 x.acc) := b2.cell 0
      have n1 : W1.cell? ⟨wr.heap.size, 1, none⟩ = some (.int .i64 x.ast) := b2.cell 1
      rw [hW1]
      clear b2 hW1 e0 e1 k0' k1' hszw
      refine region_tail 8 (by kernel_rfl) (by kernel_rfl) ?_
      simp only [List.take_succ_cons, List.take_zero, List.drop_succ_cons, List.drop_zero]
      repeat still_step
      still_call (calls_same (check1_calls _ c0 _ _ m0))
      repeat still_step
      still_call (calls_same (check2_calls _ c1 _ _ m1))
      repeat still_step
      refine wpStill_nil ?_
      clear m0 m1 n0 n1
      obtain ⟨W2, hW2⟩ : ∃ W2, W1.drew = W2 := ⟨_, rfl⟩
      have hb2 : Below wr.heap.size wr W2 := hW2 ▸ hbr.drew
      rw [hW2]
      clear hW2 hbr
      by_cases hz : x.N c0 c1 = 0
      · have hE : errV (firstNZ [unlessN (belowB x.acc c0) 14, unlessN (belowB x.ast c1) 15]) = .nilIface := by rw [show firstNZ [unlessN (belowB x.acc c0) 14, unlessN (belowB x.ast c1) 15] = x.N c0 c1 from rfl, hz]; rfl
        have HZ := Lib.hid hz
        clear hz
        go_wp2_with (go_at_call 41; refine (fault_new2 _ _ _ _ ?_).mono ?_; (simp); rintro e w1 ⟨rfl, hb⟩)
        go_roundw
        case rel => exact ⟨k + 1, by omega, by go_num, by rw [← HF.out, HD.out, HZ.out]; rfl, hin.trans (hb2.trans (hb.mono hb2.size))⟩
        case measure => simp [intOf]; omega
      · have hE : errV (firstNZ [unlessN (belowB x.acc c0) 14, unlessN (belowB x.ast c1) 15]) = .iface 71 (.int .i64 (x.N c0 c1)) := by rw [show firstNZ [unlessN (belowB x.acc c0) 14, unlessN (belowB x.ast c1) 15] = x.N c0 c1 from rfl, errV, if_neg hz]
        have HZ := Lib.hid hz
        clear hz
        go_wp2_with (go_at_call 41; refine (fault_new2 _ _ _ _ ?_).mono ?_; (simp); rintro e w1 ⟨rfl, hb⟩)
        go_ret
        exact ⟨by rw [← HF.out, HD.out, if_neg HZ.out, errV, if_neg HZ.out]; rfl, HB.out.trans ((hin.trans (hb2.trans (hb.mono hb2.size))).mono HB.out.size)⟩
    · obtain rfl : k = o.pairs.length := by omega
      go_wp2
      go_ret
      exact ⟨by rw [← HF.out, List.drop_length]; rfl, HB.out.trans (hin.mono HB.out.size)⟩

set_option maxRecDepth 100000 in
set_option maxHeartbeats 4000000 in
theorem check5_bad (c0 c1 c2 c3 c4 : Int) (o : Op) (LA PA : Option Addr) (lc pc : Nat) (w : World) (hc : o.code = 5) (hz : ¬ firstNZ [unlessN (withinB o.id 1 1099511627776) 1, unlessN (decide (0 < o.legs.length)) 2, unlessN (decide ((o.legs.length : Int) ≤ 4)) 5] = 0) :
    Calls Tryd.prog 23 #[.agg #[.int .i64 c0, .int .i64 c1, .int .i64 c2, .int .i64 c3, .int .i64 c4], .agg #[.int .i64 o.code, .int .i64 o.acc, .int .i64 o.ast, .int .i64 o.qty, .int .i64 o.name, .int .i64 o.id, .slice LA o.legs.length lc, .slice PA o.pairs.length pc]] w fun e w' => e = .returned (errV (firstNZ [unlessN (withinB o.id 1 1099511627776) 1, unlessN (decide (0 < o.legs.length)) 2, unlessN (decide ((o.legs.length : Int) ≤ 4)) 5])) ∧ Below w.heap.size w w' := by
  have hE : errV (firstNZ [unlessN (withinB o.id 1 1099511627776) 1, unlessN (decide (0 < o.legs.length)) 2, unlessN (decide ((o.legs.length : Int) ≤ 4)) 5]) = .iface 71 (.int .i64 (firstNZ [unlessN (withinB o.id 1 1099511627776) 1, unlessN (decide (0 < o.legs.length)) 2, unlessN (decide ((o.legs.length : Int) ≤ 4)) 5])) := by rw [errV, if_neg hz]
  have HZ := Lib.hid hz
  clear hz
  have HE := Lib.hid hE
  clear hE
  have HC := Lib.hid hc
  clear hc
  go_enter Tryd.func23, Tryd.ntmps23
  go_wp2_with (fail)
  obtain ⟨W0, hW0⟩ : ∃ W0, (w.alloc (.cells #[.int .i64 c0, .int .i64 c1, .int .i64 c2, .int .i64 c3, .int .i64 c4] 23)).alloc (.cells #[.int .i64 o.code, .int .i64 o.acc, .int .i64 o.ast, .int .i64 o.qty, .int .i64 o.name, .int .i64 o.id, .slice LA o.legs.length lc, .slice PA o.pairs.length pc] 33) = W0 := ⟨_, rfl⟩
  have b0 : Blk W0 w.heap.size 23 #[.int .i64 c0, .int .i64 c1, .int .i64 c2, .int .i64 c3, .int .i64 c4] := hW0 ▸ (Blk.new _ _ _).alloc _
  have b1 : Blk W0 (w.heap.size + 1) 33 #[.int .i64 o.code, .int .i64 o.acc, .int .i64 o.ast, .int .i64 o.qty, .int .i64 o.name, .int .i64 o.id, .slice LA o.legs.length lc, .slice PA o.pairs.length pc] := by
    rw [← hW0, show w.heap.size + 1 = (w.alloc (.cells #[.int .i64 c0, .int .i64 c1, .int .i64 c2, .int .i64 c3, .int .i64 c4] 23)).heap.size by simp]
    exact Blk.new _ _ _
  have hb0 : Below w.heap.size w W0 := hW0 ▸ ((Below.refl _ _).alloc (Nat.le_refl _) _).alloc (by simp) _
  have k0 : W0.cell? ⟨w.heap.size, 0, none⟩ = some (.int .i64 c0) := b0.cell 0
  have k1 : W0.cell? ⟨w.heap.size, 1, none⟩ = some (.int .i64 c1) := b0.cell 1
  have l0 : W0.cell? ⟨w.heap.size + 1, 0, none⟩ = some (.int .i64 o.code) := b1.cell 0
  have l1 : W0.cell? ⟨w.heap.size + 1, 1, none⟩ = some (.int .i64 o.acc) := b1.cell 1
  have l2 : W0.cell? ⟨w.heap.size + 1, 2, none⟩ = some (.int .i64 o.ast) := b1.cell 2
  have l3 : W0.cell? ⟨w.heap.size + 1, 3, none⟩ = some (.int .i64 o.qty) := b1.cell 3
  have l4 : W0.cell? ⟨w.heap.size + 1, 4, none⟩ = some (.int .i64 o.name) := b1.cell 4
  have l5 : W0.cell? ⟨w.heap.size + 1, 5, none⟩ = some (.int .i64 o.id) := b1.cell 5
  have l6 : W0.cell? ⟨w.heap.size + 1, 6, none⟩ = some (.slice LA o.legs.length lc) := b1.cell 6
  have l7 : W0.cell? ⟨w.heap.size + 1, 7, none⟩ = some (.slice PA o.pairs.length pc) := b1.cell 7
  rw [HC.out] at l0
  clear HC
  rw [hW0]
  clear b0 b1 hW0
  go_wp2_with (first | (go_at_call 40; refine (within_calls _ _ _ _).mono ?_; rintro e w' ⟨rfl, rfl⟩) | (go_at_call 42; refine (unless_calls _ _ _).mono ?_; rintro e w' ⟨rfl, rfl⟩))
  refine region_tail 11 (by kernel_rfl) (by kernel_rfl) ?_
  simp only [List.take_succ_cons, List.take_zero, List.drop_succ_cons, List.drop_zero]
  repeat still_step
  still_call (calls_same (unless_calls _ _ _))
  repeat still_step
  still_call (calls_same (unless_calls _ _ _))
  repeat still_step
  refine wpStill_nil ?_
  clear k0 k1 l0 l1 l2 l3 l4 l5 l6 l7
  obtain ⟨W1, hW1⟩ : ∃ W1, W0.drew = W1 := ⟨_, rfl⟩
  have hb1 : Below w.heap.size w W1 := hW1 ▸ hb0.drew
  rw [hW1]
  clear hW1 hb0
  have hE := HE.out
  go_wp2_with (go_at_call 41; refine (fault_new3 _ _ _ _ _ ?_).mono ?_; (simp); rintro e w1 ⟨rfl, hb⟩)
  go_ret
  exact ⟨by rw [HE.out]; rfl, hb1.trans (hb.mono hb1.size)⟩

set_option maxRecDepth 100000 in
set_option maxHeartbeats 4000000 in
theorem check5 (c0 c1 c2 c3 c4 : Int) (o : Op) (LA PA : Option Addr) (lc pc : Nat) (w : World) (hc : o.code = 5) (hz : firstNZ [unlessN (withinB o.id 1 1099511627776) 1, unlessN (decide (0 < o.legs.length)) 2, unlessN (decide ((o.legs.length : Int) ≤ 4)) 5] = 0) (hr : Reads w w.heap.size 5 LA o.legs.length (legsC o.legs)) (hn : o.legs.length ≤ 4) :
    Calls Tryd.prog 23 #[.agg #[.int .i64 c0, .int .i64 c1, .int .i64 c2, .int .i64 c3, .int .i64 c4], .agg #[.int .i64 o.code, .int .i64 o.acc, .int .i64 o.ast, .int .i64 o.qty, .int .i64 o.name, .int .i64 o.id, .slice LA o.legs.length lc, .slice PA o.pairs.length pc]] w fun e w' => e = .returned (errV (allN (Leg.N c0 c1) o.legs)) ∧ Below w.heap.size w w' := by
  have hE : errV (firstNZ [unlessN (withinB o.id 1 1099511627776) 1, unlessN (decide (0 < o.legs.length)) 2, unlessN (decide ((o.legs.length : Int) ≤ 4)) 5]) = .nilIface := by rw [hz]; rfl
  have HE := Lib.hid hE
  clear hE hz
  have HC := Lib.hid hc
  clear hc
  go_enter Tryd.func23, Tryd.ntmps23
  go_wp2_with (fail)
  obtain ⟨W0, hW0⟩ : ∃ W0, (w.alloc (.cells #[.int .i64 c0, .int .i64 c1, .int .i64 c2, .int .i64 c3, .int .i64 c4] 23)).alloc (.cells #[.int .i64 o.code, .int .i64 o.acc, .int .i64 o.ast, .int .i64 o.qty, .int .i64 o.name, .int .i64 o.id, .slice LA o.legs.length lc, .slice PA o.pairs.length pc] 33) = W0 := ⟨_, rfl⟩
  have b0 : Blk W0 w.heap.size 23 #[.int .i64 c0, .int .i64 c1, .int .i64 c2, .int .i64 c3, .int .i64 c4] := hW0 ▸ (Blk.new _ _ _).alloc _
  have b1 : Blk W0 (w.heap.size + 1) 33 #[.int .i64 o.code, .int .i64 o.acc, .int .i64 o.ast, .int .i64 o.qty, .int .i64 o.name, .int .i64 o.id, .slice LA o.legs.length lc, .slice PA o.pairs.length pc] := by
    rw [← hW0, show w.heap.size + 1 = (w.alloc (.cells #[.int .i64 c0, .int .i64 c1, .int .i64 c2, .int .i64 c3, .int .i64 c4] 23)).heap.size by simp]
    exact Blk.new _ _ _
  have hb0 : Below w.heap.size w W0 := hW0 ▸ ((Below.refl _ _).alloc (Nat.le_refl _) _).alloc (by simp) _
  have k0 : W0.cell? ⟨w.heap.size, 0, none⟩ = some (.int .i64 c0) := b0.cell 0
  have k1 : W0.cell? ⟨w.heap.size, 1, none⟩ = some (.int .i64 c1) := b0.cell 1
  have l0 : W0.cell? ⟨w.heap.size + 1, 0, none⟩ = some (.int .i64 o.code) := b1.cell 0
  have l1 : W0.cell? ⟨w.heap.size + 1, 1, none⟩ = some (.int .i64 o.acc) := b1.cell 1
  have l2 : W0.cell? ⟨w.heap.size + 1, 2, none⟩ = some (.int .i64 o.ast) := b1.cell 2
  have l3 : W0.cell? ⟨w.heap.size + 1, 3, none⟩ = some (.int .i64 o.qty) := b1.cell 3
  have l4 : W0.cell? ⟨w.heap.size + 1, 4, none⟩ = some (.int .i64 o.name) := b1.cell 4
  have l5 : W0.cell? ⟨w.heap.size + 1, 5, none⟩ = some (.int .i64 o.id) := b1.cell 5
  have l6 : W0.cell? ⟨w.heap.size + 1, 6, none⟩ = some (.slice LA o.legs.length lc) := b1.cell 6
  have l7 : W0.cell? ⟨w.heap.size + 1, 7, none⟩ = some (.slice PA o.pairs.length pc) := b1.cell 7
  rw [HC.out] at l0
  clear HC
  have hr0 := hr.below hb0
  have hs0 : W0.heap.size = w.heap.size + 1 + 1 := by rw [← hW0]; simp
  have HS := Lib.hid hs0
  clear hs0
  rw [hW0]
  clear b1 hW0
  go_wp2_with (first | (go_at_call 40; refine (within_calls _ _ _ _).mono ?_; rintro e w' ⟨rfl, rfl⟩) | (go_at_call 42; refine (unless_calls _ _ _).mono ?_; rintro e w' ⟨rfl, rfl⟩))
  refine region_tail 11 (by kernel_rfl) (by kernel_rfl) ?_
  simp only [List.take_succ_cons, List.take_zero, List.drop_succ_cons, List.drop_zero]
  repeat still_step
  still_call (calls_same (unless_calls _ _ _))
  repeat still_step
  still_call (calls_same (unless_calls _ _ _))
  repeat still_step
  refine wpStill_nil ?_
  clear k0 k1 l0 l1 l2 l3 l4 l5 l7
  obtain ⟨W1, hW1⟩ : ∃ W1, W0.drew = W1 := ⟨_, rfl⟩
  have hb1 : Below w.heap.size w W1 := hW1 ▸ hb0.drew
  have hi1 : InB W0 W1 := hW1 ▸ (Below.refl _ _).drew
  rw [hW1]
  clear hW1
  have hE := HE.out
  go_wp2_with (go_at_call 41; refine (fault_new3 _ _ _ _ _ ?_).mono ?_; (simp); rintro e w1 ⟨rfl, hb⟩; have hi2 := hi1.trans hb; have l6' := hi2.cell l6)
  have HB := Lib.hid hb0
  have kk := fun j v (hv : #[Value.int .i64 c0, .int .i64 c1, .int .i64 c2, .int .i64 c3, .int .i64 c4][j]? = some v) => (b0.cell j).trans hv
  have kk0 := kk 0 _ rfl
  have kk1 := kk 1 _ rfl
  have kk2 := kk 2 _ rfl
  have kk3 := kk 3 _ rfl
  have kk4 := kk 4 _ rfl
  clear l6 l6' hb0 hb1 hi1 hb kk b0
  go_loopw [82] (fun i wr => ∃ k : Nat, k ≤ o.legs.length ∧ i = .int .i64 k ∧ allN (Leg.N c0 c1) (o.legs.drop k) = allN (Leg.N c0 c1) o.legs ∧ InB W0 wr) (fun i _ => o.legs.length - (intOf i).toNat)
  case atStart => exact ⟨0, Nat.zero_le _, rfl, rfl, hi2⟩
  case round =>
    obtain ⟨k, hk, rfl, hf, hin⟩ := hrel
    have HF := Lib.hid hf
    clear hf hi2
    by_cases hlt : k < o.legs.length
    · obtain ⟨ad, rfl, hadb, e0, e1, e2, e3, e4⟩ := legs_at (hr0.below (show Below w.heap.size W0 wr from hin.mono HB.out.size)) hlt
      have hd := allN_drop (Leg.N c0 c1) o.legs k hlt
      have HD := Lib.hid hd
      clear hd hr0
      generalize hx : o.legs[k] = x at e0 e1 e2 e3 e4 HD
      have HX := Lib.hid hx
      clear hx
      have hszw : w.heap.size + 1 < wr.heap.size := by
        have h1 := hin.size
        have h2 := HS.out
        omega
      have hszw0 : w.heap.size < wr.heap.size := by omega
      have k0 := hin.cell kk0
      have k1 := hin.cell kk1
      have k2 := hin.cell kk2
      have k3 := hin.cell kk3
      have k4 := hin.cell kk4
      clear kk0 kk1 kk2 kk3 kk4
      by_cases hz : x.N c0 c1 = 0
      · have hE : errV (legN c0 c1 x.f x.t x.a x.q x.n) = .nilIface := by rw [show legN c0 c1 x.f x.t x.a x.q x.n = x.N c0 c1 from rfl, hz]; rfl
        have HZ := Lib.hid hz
        clear hz
        go_wp2_with (go_at_call 55; refine (leg_calls _ _ _ _ _ _ _ _ _ _ _).mono ?_; rintro e w1 ⟨rfl, hb⟩)
        go_roundw
        case rel => exact ⟨k + 1, by omega, by go_num, by rw [← HF.out, HD.out, HZ.out]; rfl, (hin.trans ((Below.refl _ _).alloc (Nat.le_refl _) _)).trans hb⟩
        case measure => simp [intOf]; omega
      · have hE : errV (legN c0 c1 x.f x.t x.a x.q x.n) = .iface 71 (.int .i64 (x.N c0 c1)) := by rw [show legN c0 c1 x.f x.t x.a x.q x.n = x.N c0 c1 from rfl, errV, if_neg hz]
        have HZ := Lib.hid hz
        clear hz
        go_wp2_with (go_at_call 55; refine (leg_calls _ _ _ _ _ _ _ _ _ _ _).mono ?_; rintro e w1 ⟨rfl, hb⟩)
        go_ret
        exact ⟨by rw [← HF.out, HD.out, if_neg HZ.out, errV, if_neg HZ.out]; rfl, HB.out.trans (((hin.trans ((Below.refl _ _).alloc (Nat.le_refl _) _)).trans hb).mono HB.out.size)⟩
    · obtain rfl : k = o.legs.length := by omega
      go_wp2
      go_ret
      exact ⟨by rw [← HF.out, List.drop_length]; rfl, HB.out.trans (hin.mono HB.out.size)⟩

theorem check_calls (c0 c1 c2 c3 c4 : Int) (o : Op) (LA PA : Option Addr) (lc pc : Nat) (w : World) (hrL : Reads w w.heap.size 5 LA o.legs.length (legsC o.legs)) (hrP : Reads w w.heap.size 2 PA o.pairs.length (keysC o.pairs)) :
    Calls Tryd.prog 23 #[.agg #[.int .i64 c0, .int .i64 c1, .int .i64 c2, .int .i64 c3, .int .i64 c4], .agg #[.int .i64 o.code, .int .i64 o.acc, .int .i64 o.ast, .int .i64 o.qty, .int .i64 o.name, .int .i64 o.id, .slice LA o.legs.length lc, .slice PA o.pairs.length pc]] w
      fun e w' => e = .returned (errV (checkN c0 c1 o)) ∧ Below w.heap.size w w' := by
  by_cases h1 : o.code = 1
  · rw [checkN, if_pos (.inl h1)]; exact check1 _ _ _ _ _ _ _ _ _ _ _ h1
  by_cases h2 : o.code = 2
  · rw [checkN, if_pos (.inr h2)]; exact check2 _ _ _ _ _ _ _ _ _ _ _ h2
  rw [checkN, if_neg (by omega)]
  by_cases h3 : o.code = 3
  · rw [if_pos (.inl h3)]; exact check3 _ _ _ _ _ _ _ _ _ _ _ h3
  by_cases h4 : o.code = 4
  · rw [if_pos (.inr h4)]; exact check4 _ _ _ _ _ _ _ _ _ _ _ h4
  rw [if_neg (by omega)]
  by_cases h5 : o.code = 5
  · rw [if_pos h5]
    by_cases hz : firstNZ [unlessN (withinB o.id 1 1099511627776) 1, unlessN (decide (0 < o.legs.length)) 2, unlessN (decide ((o.legs.length : Int) ≤ 4)) 5] = 0
    · rw [if_pos hz]
      have hn : o.legs.length ≤ 4 := by
        rcases Nat.lt_or_ge 4 o.legs.length with h | h
        · exfalso
          have e4 : decide ((o.legs.length : Int) ≤ 4) = false := by simp; omega
          have e0 : decide (0 < o.legs.length) = true := by simp; omega
          rw [e4, e0] at hz
          rcases bool2 (withinB o.id 1 1099511627776) with e | e <;> rw [e] at hz <;> simp [firstNZ, unlessN] at hz
        · exact h
      exact check5 _ _ _ _ _ _ _ _ _ _ _ h5 hz hrL hn
    · rw [if_neg hz]; exact check5_bad _ _ _ _ _ _ _ _ _ _ _ h5 hz
  rw [if_neg h5]
  by_cases h6 : o.code = 6
  · rw [if_pos (.inl h6)]; have := check6 c0 c1 c2 c3 c4 o LA PA lc pc w h6; rwa [firstNZ_one] at this
  by_cases h7 : o.code = 7
  · rw [if_pos (.inr h7)]; have := check7 c0 c1 c2 c3 c4 o LA PA lc pc w h7; rwa [firstNZ_one] at this
  rw [if_neg (by omega)]
  by_cases h8 : o.code = 8
  · rw [if_pos h8]
    by_cases hn : o.pairs.length ≤ 64
    · rw [if_pos hn]; exact check8 _ _ _ _ _ _ _ _ _ _ _ h8 hn hrP
    · rw [if_neg hn]; exact check8_many _ _ _ _ _ _ _ _ _ _ _ h8 hn
  · rw [if_neg h8]; exact check_other _ _ _ _ _ _ _ _ _ _ _ h1 h2 h3 h4 h5 h6 h7 h8

/-! ### what may be answered -/
def ErrNum (n : Int) : Prop := 0 ≤ n ∧ n ≤ 24
theorem unlessN_num (b : Bool) {e : Int} (h : ErrNum e) : ErrNum (unlessN b e) := by unfold unlessN; split; exact ⟨by omega, by omega⟩; exact h
theorem firstNZ_num : ∀ {l : List Int}, (∀ x ∈ l, ErrNum x) → ErrNum (firstNZ l)
  | [], _ => ⟨by decide, by decide⟩
  | x :: l, h => by
    unfold firstNZ; split
    · exact firstNZ_num fun y hy => h y (List.mem_cons_of_mem _ hy)
    · exact h x List.mem_cons_self
theorem allN_num {α : Type} {f : α → Int} (hf : ∀ x, ErrNum (f x)) : ∀ l : List α, ErrNum (allN f l)
  | [] => ⟨Int.le_refl 0, by show (0 : Int) ≤ 24; decide⟩
  | x :: l => by
    unfold allN; split
    · exact allN_num hf l
    · exact hf x
theorem num_lit {e : Int} (h1 : 0 ≤ e) (h2 : e ≤ 24) : ErrNum e := ⟨h1, h2⟩
theorem legN_num (c0 c1 : Int) (x : Leg) : ErrNum (x.N c0 c1) := by
  refine firstNZ_num fun y hy => ?_
  simp only [List.mem_cons, List.not_mem_nil, or_false] at hy
  rcases hy with rfl | rfl | rfl | rfl | rfl | rfl <;> exact unlessN_num _ ⟨by decide, by decide⟩
theorem keyN_num (c0 c1 : Int) (x : Key) : ErrNum (x.N c0 c1) := by
  refine firstNZ_num fun y hy => ?_
  simp only [List.mem_cons, List.not_mem_nil, or_false] at hy
  rcases hy with rfl | rfl <;> exact unlessN_num _ ⟨by decide, by decide⟩
theorem checkN_num (c0 c1 : Int) (o : Op) : ErrNum (checkN c0 c1 o) := by
  unfold checkN
  repeat' split
  all_goals first
    | exact ⟨by decide, by decide⟩
    | exact allN_num (legN_num c0 c1) _
    | exact allN_num (keyN_num c0 c1) _
    | exact unlessN_num _ ⟨by decide, by decide⟩
    | (refine firstNZ_num fun y hy => ?_
       simp only [List.mem_cons, List.not_mem_nil, or_false] at hy
       first
       | (rcases hy with rfl | rfl | rfl | rfl <;> exact unlessN_num _ ⟨by decide, by decide⟩)
       | (rcases hy with rfl | rfl | rfl <;> exact unlessN_num _ ⟨by decide, by decide⟩))
end Go.Proofs.YtmdkcggmnejkoaaDoor
