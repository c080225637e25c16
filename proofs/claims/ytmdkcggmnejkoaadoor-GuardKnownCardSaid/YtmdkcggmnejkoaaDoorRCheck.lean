/- custodyref16.place, Leg, submit, Check by contracts: they answer what package guard's answer. -/
import Derived.Test.YtmdkcggmnejkoaaDoorCheck
namespace Go.Proofs.YtmdkcggmnejkoaaDoor
set_option linter.unusedSimpArgs false
set_option linter.unusedVariables false
open Go.RowKit

theorem belowB_lo {n hi : Int} (h : n < 0) : belowB n hi = false := by simp [belowB]; omega
theorem belowB_hi {n hi : Int} (h : hi ≤ n) : belowB n hi = false := by simp [belowB]; omega
theorem belowB_in {n hi : Int} (h0 : 0 ≤ n) (h : n < hi) : belowB n hi = true := by simp [belowB]; omega
theorem withinB_lo {n lo hi : Int} (h : n < lo) : withinB n lo hi = false := by simp [withinB]; omega
theorem withinB_hi {n lo hi : Int} (h : hi < n) : withinB n lo hi = false := by simp [withinB]; omega
theorem withinB_in {n lo hi : Int} (h0 : lo ≤ n) (h : n ≤ hi) : withinB n lo hi = true := by simp [withinB]; omega
theorem first_hit {e : Int} (h : e ≠ 0) (l : List Int) : firstNZ (unlessN false e :: l) = e := firstNZ_pos h l
theorem first_pass (e : Int) (l : List Int) : firstNZ (unlessN true e :: l) = firstNZ l := firstNZ_zero l
theorem first_hit1 {b : Bool} {e : Int} (h : e ≠ 0) (hb : b = false) (l : List Int) : firstNZ (unlessN b e :: l) = e := by subst hb; exact firstNZ_pos h l
theorem first_pass1 {b : Bool} (e : Int) (hb : b = true) (l : List Int) : firstNZ (unlessN b e :: l) = firstNZ l := by subst hb; exact firstNZ_zero l

def placeN (c0 c1 x y : Int) : Int := firstNZ [unlessN (belowB x c0) 14, unlessN (belowB y c1) 15]
theorem placeN_x {c0 c1 x y : Int} (h : belowB x c0 = false) : placeN c0 c1 x y = 14 := first_hit1 (by decide) h _
theorem placeN_y {c0 c1 x y : Int} (h : belowB x c0 = true) (k : belowB y c1 = false) : placeN c0 c1 x y = 15 := (first_pass1 _ h _).trans (first_hit1 (by decide) k _)
theorem placeN_ok {c0 c1 x y : Int} (h : belowB x c0 = true) (k : belowB y c1 = true) : placeN c0 c1 x y = 0 := (first_pass1 _ h _).trans (first_pass1 _ k _)

set_option maxRecDepth 100000 in
set_option maxHeartbeats 2000000 in
theorem place_calls (c0 c1 c2 c3 c4 x y : Int) (w : World) : Calls Tryd.prog 50 #[.agg #[.int .i64 c0, .int .i64 c1, .int .i64 c2, .int .i64 c3, .int .i64 c4], .int .i64 x, .int .i64 y] w fun e w' => e = .returned (.int .i64 (placeN c0 c1 x y)) ∧ Below w.heap.size w w' := by
  have hb := (Below.refl w.heap.size w).alloc (Nat.le_refl _) (.cells #[.int .i64 c0, .int .i64 c1, .int .i64 c2, .int .i64 c3, .int .i64 c4] 23)
  have HB := Lib.hid hb
  clear hb
  by_cases h0 : x < 0
  · rw [placeN_x (belowB_lo h0)]
    go_enter Tryd.func50, Tryd.ntmps50
    go_wp2
    go_ret
    exact ⟨rfl, HB⟩
  · replace h0 := Int.not_lt.1 h0
    by_cases h1 : c0 ≤ x
    · rw [placeN_x (belowB_hi h1)]
      go_enter Tryd.func50, Tryd.ntmps50
      go_wp2
      go_ret
      exact ⟨rfl, HB⟩
    · replace h1 := Int.not_le.1 h1
      by_cases h2 : y < 0
      · rw [placeN_y (belowB_in h0 h1) (belowB_lo h2)]
        go_enter Tryd.func50, Tryd.ntmps50
        go_wp2
        go_ret
        exact ⟨rfl, HB⟩
      · replace h2 := Int.not_lt.1 h2
        by_cases h3 : c1 ≤ y
        · rw [placeN_y (belowB_in h0 h1) (belowB_hi h3)]
          go_enter Tryd.func50, Tryd.ntmps50
          go_wp2
          go_ret
          exact ⟨rfl, HB⟩
        · replace h3 := Int.not_le.1 h3
          rw [placeN_ok (belowB_in h0 h1) (belowB_in h2 h3)]
          go_enter Tryd.func50, Tryd.ntmps50
          go_wp2
          go_ret
          exact ⟨rfl, HB⟩

set_option maxRecDepth 100000 in
set_option maxHeartbeats 4000000 in
theorem rleg_calls (c0 c1 c2 c3 c4 f t a q n : Int) (w : World) : Calls Tryd.prog 72 #[.agg #[.int .i64 c0, .int .i64 c1, .int .i64 c2, .int .i64 c3, .int .i64 c4], .agg #[.int .i64 f, .int .i64 t, .int .i64 a, .int .i64 q, .int .i64 n]] w fun e w' => e = .returned (.int .i64 (legN c0 c1 f t a q n)) ∧ Below w.heap.size w w' := by
  have hb := ((Below.refl w.heap.size w).alloc (Nat.le_refl _) (.cells #[.int .i64 c0, .int .i64 c1, .int .i64 c2, .int .i64 c3, .int .i64 c4] 23)).alloc (by simp) (.cells #[.int .i64 f, .int .i64 t, .int .i64 a, .int .i64 q, .int .i64 n] 45)
  have HB := Lib.hid hb
  clear hb
  by_cases h0 : f < 0
  · have hN : legN c0 c1 f t a q n = 14 := (first_hit1 (by decide) (belowB_lo h0) _)
    rw [hN]
    clear hN
    go_enter Tryd.func72, Tryd.ntmps72
    go_wp2
    go_ret
    exact ⟨rfl, HB⟩
  · replace h0 := Int.not_lt.1 h0
    by_cases h1 : c0 ≤ f
    · have hN : legN c0 c1 f t a q n = 14 := (first_hit1 (by decide) (belowB_hi h1) _)
      rw [hN]
      clear hN
      go_enter Tryd.func72, Tryd.ntmps72
      go_wp2
      go_ret
      exact ⟨rfl, HB⟩
    · replace h1 := Int.not_le.1 h1
      by_cases h2 : t < 0
      · have hN : legN c0 c1 f t a q n = 14 := (first_pass1 _ (belowB_in h0 h1) _).trans ((first_hit1 (by decide) (belowB_lo h2) _))
        rw [hN]
        clear hN
        go_enter Tryd.func72, Tryd.ntmps72
        go_wp2
        go_ret
        exact ⟨rfl, HB⟩
      · replace h2 := Int.not_lt.1 h2
        by_cases h3 : c0 ≤ t
        · have hN : legN c0 c1 f t a q n = 14 := (first_pass1 _ (belowB_in h0 h1) _).trans ((first_hit1 (by decide) (belowB_hi h3) _))
          rw [hN]
          clear hN
          go_enter Tryd.func72, Tryd.ntmps72
          go_wp2
          go_ret
          exact ⟨rfl, HB⟩
        · replace h3 := Int.not_le.1 h3
          by_cases h4 : f = t
          · have hN : legN c0 c1 f t a q n = 17 := (first_pass1 _ (belowB_in h0 h1) _).trans ((first_pass1 _ (belowB_in h2 h3) _).trans ((first_hit1 (by decide) (bne_eq_false_iff_eq.2 h4) _)))
            rw [hN]
            clear hN
            have h4b : ((f : Int) == t) = true := by simpa using h4
            clear h4
            go_enter Tryd.func72, Tryd.ntmps72
            go_wp2
            go_ret
            exact ⟨rfl, HB⟩
          · have h4_ := h4
            by_cases h5 : a < 0
            · have hN : legN c0 c1 f t a q n = 15 := (first_pass1 _ (belowB_in h0 h1) _).trans ((first_pass1 _ (belowB_in h2 h3) _).trans ((first_pass1 _ (bne_iff_ne.2 h4) _).trans ((first_hit1 (by decide) (belowB_lo h5) _))))
              rw [hN]
              clear hN
              have hP : placeN c0 c1 f a = 15 := placeN_y (belowB_in h0 h1) (belowB_lo h5)
              have h4b : ((f : Int) == t) = false := by simpa using h4_
              clear h4 h4_
              go_enter Tryd.func72, Tryd.ntmps72
              go_wp2_with (go_at_call 50; refine (place_calls _ _ _ _ _ _ _ _).mono ?_; rintro e w1 ⟨rfl, hb⟩)
              go_ret
              exact ⟨rfl, HB.out.trans (hb.mono (by simp; omega))⟩
            · replace h5 := Int.not_lt.1 h5
              by_cases h6 : c1 ≤ a
              · have hN : legN c0 c1 f t a q n = 15 := (first_pass1 _ (belowB_in h0 h1) _).trans ((first_pass1 _ (belowB_in h2 h3) _).trans ((first_pass1 _ (bne_iff_ne.2 h4) _).trans ((first_hit1 (by decide) (belowB_hi h6) _))))
                rw [hN]
                clear hN
                have hP : placeN c0 c1 f a = 15 := placeN_y (belowB_in h0 h1) (belowB_hi h6)
                have h4b : ((f : Int) == t) = false := by simpa using h4_
                clear h4 h4_
                go_enter Tryd.func72, Tryd.ntmps72
                go_wp2_with (go_at_call 50; refine (place_calls _ _ _ _ _ _ _ _).mono ?_; rintro e w1 ⟨rfl, hb⟩)
                go_ret
                exact ⟨rfl, HB.out.trans (hb.mono (by simp; omega))⟩
              · replace h6 := Int.not_le.1 h6
                by_cases h7 : q < 1
                · have hN : legN c0 c1 f t a q n = 16 := (first_pass1 _ (belowB_in h0 h1) _).trans ((first_pass1 _ (belowB_in h2 h3) _).trans ((first_pass1 _ (bne_iff_ne.2 h4) _).trans ((first_pass1 _ (belowB_in h5 h6) _).trans ((first_hit1 (by decide) (decide_eq_false (by omega)) _)))))
                  rw [hN]
                  clear hN
                  have hP : placeN c0 c1 f a = 0 := placeN_ok (belowB_in h0 h1) (belowB_in h5 h6)
                  have h4b : ((f : Int) == t) = false := by simpa using h4_
                  clear h4 h4_
                  go_enter Tryd.func72, Tryd.ntmps72
                  go_wp2_with (go_at_call 50; refine (place_calls _ _ _ _ _ _ _ _).mono ?_; rintro e w1 ⟨rfl, hb⟩; have l3 : w1.cell? ⟨w.heap.size + 1, 3, none⟩ = some (.int .i64 q) := (hb.cell (p := ⟨w.heap.size + 1, 3, none⟩) (by simp)).trans (by simp); have l4 : w1.cell? ⟨w.heap.size + 1, 4, none⟩ = some (.int .i64 n) := (hb.cell (p := ⟨w.heap.size + 1, 4, none⟩) (by simp)).trans (by simp))
                  go_ret
                  exact ⟨rfl, HB.out.trans (hb.mono (by simp; omega))⟩
                · replace h7 := Int.not_lt.1 h7
                  by_cases h8 : n < 0
                  · have hN : legN c0 c1 f t a q n = 19 := (first_pass1 _ (belowB_in h0 h1) _).trans ((first_pass1 _ (belowB_in h2 h3) _).trans ((first_pass1 _ (bne_iff_ne.2 h4) _).trans ((first_pass1 _ (belowB_in h5 h6) _).trans ((first_pass1 _ (decide_eq_true (by omega)) _).trans ((first_hit1 (by decide) (withinB_lo h8) _))))))
                    rw [hN]
                    clear hN
                    have hP : placeN c0 c1 f a = 0 := placeN_ok (belowB_in h0 h1) (belowB_in h5 h6)
                    have h4b : ((f : Int) == t) = false := by simpa using h4_
                    clear h4 h4_
                    go_enter Tryd.func72, Tryd.ntmps72
                    go_wp2_with (go_at_call 50; refine (place_calls _ _ _ _ _ _ _ _).mono ?_; rintro e w1 ⟨rfl, hb⟩; have l3 : w1.cell? ⟨w.heap.size + 1, 3, none⟩ = some (.int .i64 q) := (hb.cell (p := ⟨w.heap.size + 1, 3, none⟩) (by simp)).trans (by simp); have l4 : w1.cell? ⟨w.heap.size + 1, 4, none⟩ = some (.int .i64 n) := (hb.cell (p := ⟨w.heap.size + 1, 4, none⟩) (by simp)).trans (by simp))
                    go_ret
                    exact ⟨rfl, HB.out.trans (hb.mono (by simp; omega))⟩
                  · replace h8 := Int.not_lt.1 h8
                    by_cases h9 : 65536 < n
                    · have hN : legN c0 c1 f t a q n = 19 := (first_pass1 _ (belowB_in h0 h1) _).trans ((first_pass1 _ (belowB_in h2 h3) _).trans ((first_pass1 _ (bne_iff_ne.2 h4) _).trans ((first_pass1 _ (belowB_in h5 h6) _).trans ((first_pass1 _ (decide_eq_true (by omega)) _).trans ((first_hit1 (by decide) (withinB_hi h9) _))))))
                      rw [hN]
                      clear hN
                      have hP : placeN c0 c1 f a = 0 := placeN_ok (belowB_in h0 h1) (belowB_in h5 h6)
                      have h4b : ((f : Int) == t) = false := by simpa using h4_
                      clear h4 h4_
                      go_enter Tryd.func72, Tryd.ntmps72
                      go_wp2_with (go_at_call 50; refine (place_calls _ _ _ _ _ _ _ _).mono ?_; rintro e w1 ⟨rfl, hb⟩; have l3 : w1.cell? ⟨w.heap.size + 1, 3, none⟩ = some (.int .i64 q) := (hb.cell (p := ⟨w.heap.size + 1, 3, none⟩) (by simp)).trans (by simp); have l4 : w1.cell? ⟨w.heap.size + 1, 4, none⟩ = some (.int .i64 n) := (hb.cell (p := ⟨w.heap.size + 1, 4, none⟩) (by simp)).trans (by simp))
                      go_ret
                      exact ⟨rfl, HB.out.trans (hb.mono (by simp; omega))⟩
                    · replace h9 := Int.not_lt.1 h9
                      have hN : legN c0 c1 f t a q n = 0 := (first_pass1 _ (belowB_in h0 h1) _).trans ((first_pass1 _ (belowB_in h2 h3) _).trans ((first_pass1 _ (bne_iff_ne.2 h4) _).trans ((first_pass1 _ (belowB_in h5 h6) _).trans ((first_pass1 _ (decide_eq_true (by omega)) _).trans ((first_pass1 _ (withinB_in h8 h9) _).trans (rfl))))))
                      rw [hN]
                      clear hN
                      have hP : placeN c0 c1 f a = 0 := placeN_ok (belowB_in h0 h1) (belowB_in h5 h6)
                      have h4b : ((f : Int) == t) = false := by simpa using h4_
                      clear h4 h4_
                      go_enter Tryd.func72, Tryd.ntmps72
                      go_wp2_with (go_at_call 50; refine (place_calls _ _ _ _ _ _ _ _).mono ?_; rintro e w1 ⟨rfl, hb⟩; have l3 : w1.cell? ⟨w.heap.size + 1, 3, none⟩ = some (.int .i64 q) := (hb.cell (p := ⟨w.heap.size + 1, 3, none⟩) (by simp)).trans (by simp); have l4 : w1.cell? ⟨w.heap.size + 1, 4, none⟩ = some (.int .i64 n) := (hb.cell (p := ⟨w.heap.size + 1, 4, none⟩) (by simp)).trans (by simp))
                      go_ret
                      exact ⟨rfl, HB.out.trans (hb.mono (by simp; omega))⟩

def submitN (c0 c1 : Int) (o : Op) : Int := if firstNZ [unlessN (withinB o.id 1 1099511627776) 1, unlessN (decide (0 < o.legs.length)) 2, unlessN (decide ((o.legs.length : Int) ≤ 4)) 5] = 0 then allN (Leg.N c0 c1) o.legs else firstNZ [unlessN (withinB o.id 1 1099511627776) 1, unlessN (decide (0 < o.legs.length)) 2, unlessN (decide ((o.legs.length : Int) ≤ 4)) 5]
set_option maxRecDepth 100000 in
set_option maxHeartbeats 4000000 in
theorem rsubmit_calls (c0 c1 c2 c3 c4 : Int) (o : Op) (LA PA : Option Addr) (lc pc : Nat) (w : World) (hr : Reads w w.heap.size 5 LA o.legs.length (legsC o.legs)) :
    Calls Tryd.prog 51 #[.agg #[.int .i64 c0, .int .i64 c1, .int .i64 c2, .int .i64 c3, .int .i64 c4], .agg #[.int .i64 o.code, .int .i64 o.acc, .int .i64 o.ast, .int .i64 o.qty, .int .i64 o.name, .int .i64 o.id, .slice LA o.legs.length lc, .slice PA o.pairs.length pc]] w fun e w' => e = .returned (.int .i64 (submitN c0 c1 o)) ∧ Below w.heap.size w w' := by
  by_cases h0 : o.id < 1
  · have hN : firstNZ [unlessN (withinB o.id 1 1099511627776) 1, unlessN (decide (0 < o.legs.length)) 2, unlessN (decide ((o.legs.length : Int) ≤ 4)) 5] = 1 := first_hit1 (by decide) (withinB_lo h0) _
    rw [submitN, hN, if_neg (by decide)]
    clear hN
    go_enter Tryd.func51, Tryd.ntmps51
    go_wp2
    go_ret
    exact ⟨rfl, ((Below.refl _ _).alloc (Nat.le_refl _) _).alloc (by simp) _⟩
  · replace h0 := Int.not_lt.1 h0
    by_cases h1 : 1099511627776 < o.id
    · have hN : firstNZ [unlessN (withinB o.id 1 1099511627776) 1, unlessN (decide (0 < o.legs.length)) 2, unlessN (decide ((o.legs.length : Int) ≤ 4)) 5] = 1 := first_hit1 (by decide) (withinB_hi h1) _
      rw [submitN, hN, if_neg (by decide)]
      clear hN
      go_enter Tryd.func51, Tryd.ntmps51
      go_wp2
      go_ret
      exact ⟨rfl, ((Below.refl _ _).alloc (Nat.le_refl _) _).alloc (by simp) _⟩
    · replace h1 := Int.not_lt.1 h1
      by_cases h2 : o.legs.length = 0
      · have hN : firstNZ [unlessN (withinB o.id 1 1099511627776) 1, unlessN (decide (0 < o.legs.length)) 2, unlessN (decide ((o.legs.length : Int) ≤ 4)) 5] = 2 := (first_pass1 _ (withinB_in h0 h1) _).trans (first_hit1 (by decide) (decide_eq_false (by omega)) _)
        rw [submitN, hN, if_neg (by decide)]
        clear hN
        have hz : ((o.legs.length : Int) == 0) = true := beq_iff_eq.2 (by omega)
        go_enter Tryd.func51, Tryd.ntmps51
        go_wp2
        go_ret
        exact ⟨rfl, ((Below.refl _ _).alloc (Nat.le_refl _) _).alloc (by simp) _⟩
      · have h2_ := h2
        by_cases h3 : 4 < o.legs.length
        · have hN : firstNZ [unlessN (withinB o.id 1 1099511627776) 1, unlessN (decide (0 < o.legs.length)) 2, unlessN (decide ((o.legs.length : Int) ≤ 4)) 5] = 5 := (first_pass1 _ (withinB_in h0 h1) _).trans ((first_pass1 _ (decide_eq_true (by omega)) _).trans (first_hit1 (by decide) (decide_eq_false (by omega)) _))
          rw [submitN, hN, if_neg (by decide)]
          clear hN
          have hz : ((o.legs.length : Int) == 0) = false := beq_eq_false_iff_ne.2 (by omega)
          have hm : decide ((4 : Int) < (o.legs.length : Int)) = true := by simp; omega
          go_enter Tryd.func51, Tryd.ntmps51
          go_wp2
          go_ret
          exact ⟨rfl, ((Below.refl _ _).alloc (Nat.le_refl _) _).alloc (by simp) _⟩
        · replace h3 := Nat.not_lt.1 h3
          have hN : firstNZ [unlessN (withinB o.id 1 1099511627776) 1, unlessN (decide (0 < o.legs.length)) 2, unlessN (decide ((o.legs.length : Int) ≤ 4)) 5] = 0 := (first_pass1 _ (withinB_in h0 h1) _).trans ((first_pass1 _ (decide_eq_true (by omega)) _).trans (first_pass1 _ (decide_eq_true (by omega)) _))
          rw [submitN, if_pos hN]
          clear hN
          have hz : ((o.legs.length : Int) == 0) = false := beq_eq_false_iff_ne.2 (by omega)
          have hm : decide ((4 : Int) < (o.legs.length : Int)) = false := by simp; omega
          go_enter Tryd.func51, Tryd.ntmps51
          go_wp2_with (fail)
          obtain ⟨W0, hW0⟩ : ∃ W0, (w.alloc (.cells #[.int .i64 c0, .int .i64 c1, .int .i64 c2, .int .i64 c3, .int .i64 c4] 23)).alloc (.cells #[.int .i64 o.code, .int .i64 o.acc, .int .i64 o.ast, .int .i64 o.qty, .int .i64 o.name, .int .i64 o.id, .slice LA o.legs.length lc, .slice PA o.pairs.length pc] 33) = W0 := ⟨_, rfl⟩
          have b0 : Blk W0 w.heap.size 23 #[.int .i64 c0, .int .i64 c1, .int .i64 c2, .int .i64 c3, .int .i64 c4] := hW0 ▸ (Blk.new _ _ _).alloc _
          have b1 : Blk W0 (w.heap.size + 1) 33 #[.int .i64 o.code, .int .i64 o.acc, .int .i64 o.ast, .int .i64 o.qty, .int .i64 o.name, .int .i64 o.id, .slice LA o.legs.length lc, .slice PA o.pairs.length pc] := by
            rw [← hW0, show w.heap.size + 1 = (w.alloc (.cells #[.int .i64 c0, .int .i64 c1, .int .i64 c2, .int .i64 c3, .int .i64 c4] 23)).heap.size by simp]
            exact Blk.new _ _ _
          have hb0 : Below w.heap.size w W0 := hW0 ▸ ((Below.refl _ _).alloc (Nat.le_refl _) _).alloc (by simp) _
          have HB := Lib.hid hb0
          have k0 : W0.cell? ⟨w.heap.size, 0, none⟩ = some (.int .i64 c0) := b0.cell 0
          have k1 : W0.cell? ⟨w.heap.size, 1, none⟩ = some (.int .i64 c1) := b0.cell 1
          have k2 : W0.cell? ⟨w.heap.size, 2, none⟩ = some (.int .i64 c2) := b0.cell 2
          have k3 : W0.cell? ⟨w.heap.size, 3, none⟩ = some (.int .i64 c3) := b0.cell 3
          have k4 : W0.cell? ⟨w.heap.size, 4, none⟩ = some (.int .i64 c4) := b0.cell 4
          have l0 : W0.cell? ⟨w.heap.size + 1, 0, none⟩ = some (.int .i64 o.code) := b1.cell 0
          have l1 : W0.cell? ⟨w.heap.size + 1, 1, none⟩ = some (.int .i64 o.acc) := b1.cell 1
          have l2 : W0.cell? ⟨w.heap.size + 1, 2, none⟩ = some (.int .i64 o.ast) := b1.cell 2
          have l3 : W0.cell? ⟨w.heap.size + 1, 3, none⟩ = some (.int .i64 o.qty) := b1.cell 3
          have l4 : W0.cell? ⟨w.heap.size + 1, 4, none⟩ = some (.int .i64 o.name) := b1.cell 4
          have l5 : W0.cell? ⟨w.heap.size + 1, 5, none⟩ = some (.int .i64 o.id) := b1.cell 5
          have l6 : W0.cell? ⟨w.heap.size + 1, 6, none⟩ = some (.slice LA o.legs.length lc) := b1.cell 6
          have l7 : W0.cell? ⟨w.heap.size + 1, 7, none⟩ = some (.slice PA o.pairs.length pc) := b1.cell 7
          have hr0 := hr.below hb0
          have hs0 : W0.heap.size = w.heap.size + 1 + 1 := by rw [← hW0]; simp
          have HS := Lib.hid hs0
          clear hs0 hr
          clear b0 b1 hb0
          rw [hW0]
          clear hW0
          go_loopw [5] (fun i wr => ∃ k : Nat, k ≤ o.legs.length ∧ i = .int .i64 k ∧ allN (Leg.N c0 c1) (o.legs.drop k) = allN (Leg.N c0 c1) o.legs ∧ InB W0 wr) (fun i _ => o.legs.length - (intOf i).toNat)
          case atStart => exact ⟨0, Nat.zero_le _, rfl, rfl, Below.refl _ _⟩
          case round =>
            obtain ⟨k, hk, rfl, hf, hin⟩ := hrel
            have HF := Lib.hid hf
            clear hf
            have k0' := hin.cell k0
            have k1' := hin.cell k1
            have k2' := hin.cell k2
            have k3' := hin.cell k3
            have k4' := hin.cell k4
            have l6' := hin.cell l6
            clear k0 k1 k2 k3 k4 l0 l1 l2 l3 l4 l5 l6 l7
            by_cases hlt : k < o.legs.length
            · obtain ⟨ad, rfl, hadb, e0, e1, e2, e3, e4⟩ := legs_at (hr0.below (show Below w.heap.size W0 wr from hin.mono HB.out.size)) hlt
              have hd := allN_drop (Leg.N c0 c1) o.legs k hlt
              have HD := Lib.hid hd
              clear hd hr0
              generalize hx : o.legs[k] = x at e0 e1 e2 e3 e4 HD
              have HX := Lib.hid hx
              clear hx
              go_wp2_with (fail)
              refine wp_region_class (InB wr) (by kernel_rfl) (by kernel_rfl) (InB.start _) ?_
              refine BigFrame.wpQuiet_want (by rfl) (fun K hK => ?_)
              refine quiet_value (.agg #[.int .i64 c0, .int .i64 c1, .int .i64 c2, .int .i64 c3, .int .i64 c4]) (fun W hW => ?_) (hK _ ?_)
              · clear hK
                have q0 := hW.cell k0'
                have q1 := hW.cell k1'
                have q2 := hW.cell k2'
                have q3 := hW.cell k3'
                have q4 := hW.cell k4'
                clear hW
                go_simp
              clear hK K
              simp only [Act.put, List.setIfInBounds_toArray, List.set_cons_zero, List.set_cons_succ]
              refine BigFrame.wpQuiet_want (by rfl) (fun K hK => ?_)
              refine quiet_value (.pointer (some ⟨w.heap.size + 1, 6, none⟩)) (fun W hW => ?_) (hK _ ?_)
              · clear hK
                clear hW
                go_simp
              clear hK K
              simp only [Act.put, List.setIfInBounds_toArray, List.set_cons_zero, List.set_cons_succ]
              refine BigFrame.wpQuiet_want (by rfl) (fun K hK => ?_)
              refine quiet_value (.slice (some ad) o.legs.length lc) (fun W hW => ?_) (hK _ ?_)
              · clear hK
                have q0 := hW.cell l6'
                clear hW
                go_simp
              clear hK K
              simp only [Act.put, List.setIfInBounds_toArray, List.set_cons_zero, List.set_cons_succ]
              refine BigFrame.wpQuiet_want (by rfl) (fun K hK => ?_)
              refine quiet_value (.int .i64 k) (fun W hW => ?_) (hK _ ?_)
              · clear hK
                clear hW
                go_simp
              clear hK K
              simp only [Act.put, List.setIfInBounds_toArray, List.set_cons_zero, List.set_cons_succ]
              refine BigFrame.wpQuiet_want (by rfl) (fun K hK => ?_)
              refine quiet_value (.pointer (some (ad.add (k * 5)))) (fun W hW => ?_) (hK _ ?_)
              · clear hK
                clear hW
                go_simp
              clear hK K
              simp only [Act.put, List.setIfInBounds_toArray, List.set_cons_zero, List.set_cons_succ]
              refine BigFrame.wpQuiet_want (by rfl) (fun K hK => ?_)
              refine quiet_value (.agg #[.int .i64 x.f, .int .i64 x.t, .int .i64 x.a, .int .i64 x.q, .int .i64 x.n]) (fun W hW => ?_) (hK _ ?_)
              · clear hK
                have q0 := hW.cell e0
                have q1 := hW.cell e1
                have q2 := hW.cell e2
                have q3 := hW.cell e3
                have q4 := hW.cell e4
                clear hW
                go_simp
              clear hK K
              simp only [Act.put, List.setIfInBounds_toArray, List.set_cons_zero, List.set_cons_succ]
              refine BigFrame.wpQuiet_want (by rfl) (fun K hK => ?_)
              refine quiet_call 72 #[.agg #[.int .i64 c0, .int .i64 c1, .int .i64 c2, .int .i64 c3, .int .i64 c4], .agg #[.int .i64 x.f, .int .i64 x.t, .int .i64 x.a, .int .i64 x.q, .int .i64 x.n]] (.int .i64 (legN c0 c1 x.f x.t x.a x.q x.n)) (fun W => ?_) (fun W hW => ?_) (hK _ ?_)
              · clear hK
                go_simp
              · refine (rleg_calls c0 c1 c2 c3 c4 x.f x.t x.a x.q x.n W).mono ?_
                rintro e w' ⟨rfl, hb⟩
                exact ⟨rfl, hW.trans hb⟩
              clear hK K
              simp only [Act.put, List.setIfInBounds_toArray, List.set_cons_zero, List.set_cons_succ]
              refine BigFrame.wpQuiet_want (by rfl) (fun K hK => ?_)
              refine quiet_value (.int .i64 (legN c0 c1 x.f x.t x.a x.q x.n)) (fun W hW => ?_) (hK _ ?_)
              · clear hK
                clear hW
                go_simp
              clear hK K
              simp only [Act.put, List.setIfInBounds_toArray, List.set_cons_zero, List.set_cons_succ]
              refine wpQuiet_nil ?_
              intro W1 hiW1
              rw [show legN c0 c1 x.f x.t x.a x.q x.n = x.N c0 c1 from rfl]
              clear e0 e1 e2 e3 e4 k0' k1' k2' k3' k4' l6'
              by_cases hz : x.N c0 c1 = 0
              · have hzb : ((x.N c0 c1 : Int) != 0) = false := by simpa using hz
                have HZ := Lib.hid hz
                clear hz
                go_wp2
                go_roundw
                case rel => exact ⟨k + 1, by omega, by go_num, by rw [← HF.out, HD.out, HZ.out]; rfl, hin.trans hiW1⟩
                case measure => simp [intOf]; omega
              · have hzb : ((x.N c0 c1 : Int) != 0) = true := by simpa using hz
                have HZ := Lib.hid hz
                clear hz
                go_wp2
                go_ret
                exact ⟨by rw [← HF.out, HD.out, if_neg HZ.out]; rfl, HB.out.trans ((hin.trans hiW1).mono HB.out.size)⟩
            · obtain rfl : k = o.legs.length := by omega
              go_wp2
              go_ret
              exact ⟨by rw [← HF.out, List.drop_length]; rfl, HB.out.trans (hin.mono HB.out.size)⟩

theorem firstNZ_two (a b : Int) (l : List Int) : firstNZ (a :: b :: l) = if firstNZ [a, b] = 0 then firstNZ l else firstNZ [a, b] := by
  by_cases ha : a = 0 <;> by_cases hb : b = 0 <;> simp [firstNZ, ha, hb]

set_option maxRecDepth 100000 in
set_option maxHeartbeats 4000000 in
theorem rcheck1 (c0 c1 c2 c3 c4 : Int) (o : Op) (LA PA : Option Addr) (lc pc : Nat) (w : World) (hc : o.code = 1) :
    Calls Tryd.prog 22 #[.agg #[.int .i64 c0, .int .i64 c1, .int .i64 c2, .int .i64 c3, .int .i64 c4], .agg #[.int .i64 o.code, .int .i64 o.acc, .int .i64 o.ast, .int .i64 o.qty, .int .i64 o.name, .int .i64 o.id, .slice LA o.legs.length lc, .slice PA o.pairs.length pc]] w fun e w' => e = .returned (.int .i64 (firstNZ [unlessN (belowB o.acc c0) 14, unlessN (belowB o.ast c1) 15, unlessN (decide (0 < o.qty)) 16])) ∧ Below w.heap.size w w' := by
  rw [firstNZ_two, show firstNZ [unlessN (belowB o.acc c0) 14, unlessN (belowB o.ast c1) 15] = placeN c0 c1 o.acc o.ast from rfl]
  by_cases hp : ¬ placeN c0 c1 o.acc o.ast = 0
  · rw [if_neg hp]
    have hpb : ((placeN c0 c1 o.acc o.ast : Int) != 0) = true := by simpa using hp
    clear hp
    have q1 : ((o.code : Int) == 1) = true := by rw [hc]; rfl
    have q2 : ((o.code : Int) == 2) = false := by rw [hc]; rfl
    have q3 : ((o.code : Int) == 3) = false := by rw [hc]; rfl
    have q4 : ((o.code : Int) == 4) = false := by rw [hc]; rfl
    have q5 : ((o.code : Int) == 5) = false := by rw [hc]; rfl
    have q6 : ((o.code : Int) == 6) = false := by rw [hc]; rfl
    have q7 : ((o.code : Int) == 7) = false := by rw [hc]; rfl
    have q8 : ((o.code : Int) == 8) = false := by rw [hc]; rfl
    clear hc
    go_enter Tryd.func22, Tryd.ntmps22
    go_wp2_with (fail)
    obtain ⟨W0, hW0⟩ : ∃ W0, (w.alloc (.cells #[.int .i64 c0, .int .i64 c1, .int .i64 c2, .int .i64 c3, .int .i64 c4] 23)).alloc (.cells #[.int .i64 o.code, .int .i64 o.acc, .int .i64 o.ast, .int .i64 o.qty, .int .i64 o.name, .int .i64 o.id, .slice LA o.legs.length lc, .slice PA o.pairs.length pc] 33) = W0 := ⟨_, rfl⟩
    have b0 : Blk W0 w.heap.size 23 #[.int .i64 c0, .int .i64 c1, .int .i64 c2, .int .i64 c3, .int .i64 c4] := hW0 ▸ (Blk.new _ _ _).alloc _
    have b1 : Blk W0 (w.heap.size + 1) 33 #[.int .i64 o.code, .int .i64 o.acc, .int .i64 o.ast, .int .i64 o.qty, .int .i64 o.name, .int .i64 o.id, .slice LA o.legs.length lc, .slice PA o.pairs.length pc] := by
      rw [← hW0, show w.heap.size + 1 = (w.alloc (.cells #[.int .i64 c0, .int .i64 c1, .int .i64 c2, .int .i64 c3, .int .i64 c4] 23)).heap.size by simp]
      exact Blk.new _ _ _
    have hb0 : Below w.heap.size w W0 := hW0 ▸ ((Below.refl _ _).alloc (Nat.le_refl _) _).alloc (by simp) _
    have HB := Lib.hid hb0
    have k0 : W0.cell? ⟨w.heap.size, 0, none⟩ = some (.int .i64 c0) := b0.cell 0
    have k1 : W0.cell? ⟨w.heap.size, 1, none⟩ = some (.int .i64 c1) := b0.cell 1
    have k2 : W0.cell? ⟨w.heap.size, 2, none⟩ = some (.int .i64 c2) := b0.cell 2
    have k3 : W0.cell? ⟨w.heap.size, 3, none⟩ = some (.int .i64 c3) := b0.cell 3
    have k4 : W0.cell? ⟨w.heap.size, 4, none⟩ = some (.int .i64 c4) := b0.cell 4
    have l0 : W0.cell? ⟨w.heap.size + 1, 0, none⟩ = some (.int .i64 o.code) := b1.cell 0
    have l1 : W0.cell? ⟨w.heap.size + 1, 1, none⟩ = some (.int .i64 o.acc) := b1.cell 1
    have l2 : W0.cell? ⟨w.heap.size + 1, 2, none⟩ = some (.int .i64 o.ast) := b1.cell 2
    have l3 : W0.cell? ⟨w.heap.size + 1, 3, none⟩ = some (.int .i64 o.qty) := b1.cell 3
    have l4 : W0.cell? ⟨w.heap.size + 1, 4, none⟩ = some (.int .i64 o.name) := b1.cell 4
    have l5 : W0.cell? ⟨w.heap.size + 1, 5, none⟩ = some (.int .i64 o.id) := b1.cell 5
    have l6 : W0.cell? ⟨w.heap.size + 1, 6, none⟩ = some (.slice LA o.legs.length lc) := b1.cell 6
    have l7 : W0.cell? ⟨w.heap.size + 1, 7, none⟩ = some (.slice PA o.pairs.length pc) := b1.cell 7
    clear b0 b1 hb0
    rw [hW0]
    clear hW0
    go_wp2_with (go_at_call 50; refine (place_calls _ _ _ _ _ _ _ _).mono ?_; rintro e w1 ⟨rfl, hb⟩; have l0' := InB.cell (w0 := W0) hb l0; have l3' := InB.cell (w0 := W0) hb l3; have l4' := InB.cell (w0 := W0) hb l4)
    go_ret
    exact ⟨rfl, HB.out.trans (Below.mono hb HB.out.size)⟩
  · replace hp := Classical.not_not.1 hp
    by_cases h0 : o.qty < 1
    · rw [if_pos hp]
      have hpb : ((placeN c0 c1 o.acc o.ast : Int) != 0) = false := by simpa using hp
      clear hp
      have hN : firstNZ [unlessN (decide (0 < o.qty)) 16] = 16 := first_hit1 (by decide) (decide_eq_false (by omega)) _
      rw [hN]
      clear hN
      have q1 : ((o.code : Int) == 1) = true := by rw [hc]; rfl
      have q2 : ((o.code : Int) == 2) = false := by rw [hc]; rfl
      have q3 : ((o.code : Int) == 3) = false := by rw [hc]; rfl
      have q4 : ((o.code : Int) == 4) = false := by rw [hc]; rfl
      have q5 : ((o.code : Int) == 5) = false := by rw [hc]; rfl
      have q6 : ((o.code : Int) == 6) = false := by rw [hc]; rfl
      have q7 : ((o.code : Int) == 7) = false := by rw [hc]; rfl
      have q8 : ((o.code : Int) == 8) = false := by rw [hc]; rfl
      clear hc
      go_enter Tryd.func22, Tryd.ntmps22
      go_wp2_with (fail)
      obtain ⟨W0, hW0⟩ : ∃ W0, (w.alloc (.cells #[.int .i64 c0, .int .i64 c1, .int .i64 c2, .int .i64 c3, .int .i64 c4] 23)).alloc (.cells #[.int .i64 o.code, .int .i64 o.acc, .int .i64 o.ast, .int .i64 o.qty, .int .i64 o.name, .int .i64 o.id, .slice LA o.legs.length lc, .slice PA o.pairs.length pc] 33) = W0 := ⟨_, rfl⟩
      have b0 : Blk W0 w.heap.size 23 #[.int .i64 c0, .int .i64 c1, .int .i64 c2, .int .i64 c3, .int .i64 c4] := hW0 ▸ (Blk.new _ _ _).alloc _
      have b1 : Blk W0 (w.heap.size + 1) 33 #[.int .i64 o.code, .int .i64 o.acc, .int .i64 o.ast, .int .i64 o.qty, .int .i64 o.name, .int .i64 o.id, .slice LA o.legs.length lc, .slice PA o.pairs.length pc] := by
        rw [← hW0, show w.heap.size + 1 = (w.alloc (.cells #[.int .i64 c0, .int .i64 c1, .int .i64 c2, .int .i64 c3, .int .i64 c4] 23)).heap.size by simp]
        exact Blk.new _ _ _
      have hb0 : Below w.heap.size w W0 := hW0 ▸ ((Below.refl _ _).alloc (Nat.le_refl _) _).alloc (by simp) _
      have HB := Lib.hid hb0
      have k0 : W0.cell? ⟨w.heap.size, 0, none⟩ = some (.int .i64 c0) := b0.cell 0
      have k1 : W0.cell? ⟨w.heap.size, 1, none⟩ = some (.int .i64 c1) := b0.cell 1
      have k2 : W0.cell? ⟨w.heap.size, 2, none⟩ = some (.int .i64 c2) := b0.cell 2
      have k3 : W0.cell? ⟨w.heap.size, 3, none⟩ = some (.int .i64 c3) := b0.cell 3
      have k4 : W0.cell? ⟨w.heap.size, 4, none⟩ = some (.int .i64 c4) := b0.cell 4
      have l0 : W0.cell? ⟨w.heap.size + 1, 0, none⟩ = some (.int .i64 o.code) := b1.cell 0
      have l1 : W0.cell? ⟨w.heap.size + 1, 1, none⟩ = some (.int .i64 o.acc) := b1.cell 1
      have l2 : W0.cell? ⟨w.heap.size + 1, 2, none⟩ = some (.int .i64 o.ast) := b1.cell 2
      have l3 : W0.cell? ⟨w.heap.size + 1, 3, none⟩ = some (.int .i64 o.qty) := b1.cell 3
      have l4 : W0.cell? ⟨w.heap.size + 1, 4, none⟩ = some (.int .i64 o.name) := b1.cell 4
      have l5 : W0.cell? ⟨w.heap.size + 1, 5, none⟩ = some (.int .i64 o.id) := b1.cell 5
      have l6 : W0.cell? ⟨w.heap.size + 1, 6, none⟩ = some (.slice LA o.legs.length lc) := b1.cell 6
      have l7 : W0.cell? ⟨w.heap.size + 1, 7, none⟩ = some (.slice PA o.pairs.length pc) := b1.cell 7
      clear b0 b1 hb0
      rw [hW0]
      clear hW0
      go_wp2_with (go_at_call 50; refine (place_calls _ _ _ _ _ _ _ _).mono ?_; rintro e w1 ⟨rfl, hb⟩; have l0' := InB.cell (w0 := W0) hb l0; have l3' := InB.cell (w0 := W0) hb l3; have l4' := InB.cell (w0 := W0) hb l4)
      go_ret
      exact ⟨rfl, HB.out.trans (Below.mono hb HB.out.size)⟩
    · replace h0 := Int.not_lt.1 h0
      rw [if_pos hp]
      have hpb : ((placeN c0 c1 o.acc o.ast : Int) != 0) = false := by simpa using hp
      clear hp
      have hN : firstNZ [unlessN (decide (0 < o.qty)) 16] = 0 := first_pass1 _ (decide_eq_true (by omega)) _
      rw [hN]
      clear hN
      have q1 : ((o.code : Int) == 1) = true := by rw [hc]; rfl
      have q2 : ((o.code : Int) == 2) = false := by rw [hc]; rfl
      have q3 : ((o.code : Int) == 3) = false := by rw [hc]; rfl
      have q4 : ((o.code : Int) == 4) = false := by rw [hc]; rfl
      have q5 : ((o.code : Int) == 5) = false := by rw [hc]; rfl
      have q6 : ((o.code : Int) == 6) = false := by rw [hc]; rfl
      have q7 : ((o.code : Int) == 7) = false := by rw [hc]; rfl
      have q8 : ((o.code : Int) == 8) = false := by rw [hc]; rfl
      clear hc
      go_enter Tryd.func22, Tryd.ntmps22
      go_wp2_with (fail)
      obtain ⟨W0, hW0⟩ : ∃ W0, (w.alloc (.cells #[.int .i64 c0, .int .i64 c1, .int .i64 c2, .int .i64 c3, .int .i64 c4] 23)).alloc (.cells #[.int .i64 o.code, .int .i64 o.acc, .int .i64 o.ast, .int .i64 o.qty, .int .i64 o.name, .int .i64 o.id, .slice LA o.legs.length lc, .slice PA o.pairs.length pc] 33) = W0 := ⟨_, rfl⟩
      have b0 : Blk W0 w.heap.size 23 #[.int .i64 c0, .int .i64 c1, .int .i64 c2, .int .i64 c3, .int .i64 c4] := hW0 ▸ (Blk.new _ _ _).alloc _
      have b1 : Blk W0 (w.heap.size + 1) 33 #[.int .i64 o.code, .int .i64 o.acc, .int .i64 o.ast, .int .i64 o.qty, .int .i64 o.name, .int .i64 o.id, .slice LA o.legs.length lc, .slice PA o.pairs.length pc] := by
        rw [← hW0, show w.heap.size + 1 = (w.alloc (.cells #[.int .i64 c0, .int .i64 c1, .int .i64 c2, .int .i64 c3, .int .i64 c4] 23)).heap.size by simp]
        exact Blk.new _ _ _
      have hb0 : Below w.heap.size w W0 := hW0 ▸ ((Below.refl _ _).alloc (Nat.le_refl _) _).alloc (by simp) _
      have HB := Lib.hid hb0
      have k0 : W0.cell? ⟨w.heap.size, 0, none⟩ = some (.int .i64 c0) := b0.cell 0
      have k1 : W0.cell? ⟨w.heap.size, 1, none⟩ = some (.int .i64 c1) := b0.cell 1
      have k2 : W0.cell? ⟨w.heap.size, 2, none⟩ = some (.int .i64 c2) := b0.cell 2
      have k3 : W0.cell? ⟨w.heap.size, 3, none⟩ = some (.int .i64 c3) := b0.cell 3
      have k4 : W0.cell? ⟨w.heap.size, 4, none⟩ = some (.int .i64 c4) := b0.cell 4
      have l0 : W0.cell? ⟨w.heap.size + 1, 0, none⟩ = some (.int .i64 o.code) := b1.cell 0
      have l1 : W0.cell? ⟨w.heap.size + 1, 1, none⟩ = some (.int .i64 o.acc) := b1.cell 1
      have l2 : W0.cell? ⟨w.heap.size + 1, 2, none⟩ = some (.int .i64 o.ast) := b1.cell 2
      have l3 : W0.cell? ⟨w.heap.size + 1, 3, none⟩ = some (.int .i64 o.qty) := b1.cell 3
      have l4 : W0.cell? ⟨w.heap.size + 1, 4, none⟩ = some (.int .i64 o.name) := b1.cell 4
      have l5 : W0.cell? ⟨w.heap.size + 1, 5, none⟩ = some (.int .i64 o.id) := b1.cell 5
      have l6 : W0.cell? ⟨w.heap.size + 1, 6, none⟩ = some (.slice LA o.legs.length lc) := b1.cell 6
      have l7 : W0.cell? ⟨w.heap.size + 1, 7, none⟩ = some (.slice PA o.pairs.length pc) := b1.cell 7
      clear b0 b1 hb0
      rw [hW0]
      clear hW0
      go_wp2_with (go_at_call 50; refine (place_calls _ _ _ _ _ _ _ _).mono ?_; rintro e w1 ⟨rfl, hb⟩; have l0' := InB.cell (w0 := W0) hb l0; have l3' := InB.cell (w0 := W0) hb l3; have l4' := InB.cell (w0 := W0) hb l4)
      go_ret
      exact ⟨rfl, HB.out.trans (Below.mono hb HB.out.size)⟩

set_option maxRecDepth 100000 in
set_option maxHeartbeats 4000000 in
theorem rcheck2 (c0 c1 c2 c3 c4 : Int) (o : Op) (LA PA : Option Addr) (lc pc : Nat) (w : World) (hc : o.code = 2) :
    Calls Tryd.prog 22 #[.agg #[.int .i64 c0, .int .i64 c1, .int .i64 c2, .int .i64 c3, .int .i64 c4], .agg #[.int .i64 o.code, .int .i64 o.acc, .int .i64 o.ast, .int .i64 o.qty, .int .i64 o.name, .int .i64 o.id, .slice LA o.legs.length lc, .slice PA o.pairs.length pc]] w fun e w' => e = .returned (.int .i64 (firstNZ [unlessN (belowB o.acc c0) 14, unlessN (belowB o.ast c1) 15, unlessN (decide (0 < o.qty)) 16])) ∧ Below w.heap.size w w' := by
  rw [firstNZ_two, show firstNZ [unlessN (belowB o.acc c0) 14, unlessN (belowB o.ast c1) 15] = placeN c0 c1 o.acc o.ast from rfl]
  by_cases hp : ¬ placeN c0 c1 o.acc o.ast = 0
  · rw [if_neg hp]
    have hpb : ((placeN c0 c1 o.acc o.ast : Int) != 0) = true := by simpa using hp
    clear hp
    have q1 : ((o.code : Int) == 1) = false := by rw [hc]; rfl
    have q2 : ((o.code : Int) == 2) = true := by rw [hc]; rfl
    have q3 : ((o.code : Int) == 3) = false := by rw [hc]; rfl
    have q4 : ((o.code : Int) == 4) = false := by rw [hc]; rfl
    have q5 : ((o.code : Int) == 5) = false := by rw [hc]; rfl
    have q6 : ((o.code : Int) == 6) = false := by rw [hc]; rfl
    have q7 : ((o.code : Int) == 7) = false := by rw [hc]; rfl
    have q8 : ((o.code : Int) == 8) = false := by rw [hc]; rfl
    clear hc
    go_enter Tryd.func22, Tryd.ntmps22
    go_wp2_with (fail)
    obtain ⟨W0, hW0⟩ : ∃ W0, (w.alloc (.cells #[.int .i64 c0, .int .i64 c1, .int .i64 c2, .int .i64 c3, .int .i64 c4] 23)).alloc (.cells #[.int .i64 o.code, .int .i64 o.acc, .int .i64 o.ast, .int .i64 o.qty, .int .i64 o.name, .int .i64 o.id, .slice LA o.legs.length lc, .slice PA o.pairs.length pc] 33) = W0 := ⟨_, rfl⟩
    have b0 : Blk W0 w.heap.size 23 #[.int .i64 c0, .int .i64 c1, .int .i64 c2, .int .i64 c3, .int .i64 c4] := hW0 ▸ (Blk.new _ _ _).alloc _
    have b1 : Blk W0 (w.heap.size + 1) 33 #[.int .i64 o.code, .int .i64 o.acc, .int .i64 o.ast, .int .i64 o.qty, .int .i64 o.name, .int .i64 o.id, .slice LA o.legs.length lc, .slice PA o.pairs.length pc] := by
      rw [← hW0, show w.heap.size + 1 = (w.alloc (.cells #[.int .i64 c0, .int .i64 c1, .int .i64 c2, .int .i64 c3, .int .i64 c4] 23)).heap.size by simp]
      exact Blk.new _ _ _
    have hb0 : Below w.heap.size w W0 := hW0 ▸ ((Below.refl _ _).alloc (Nat.le_refl _) _).alloc (by simp) _
    have HB := Lib.hid hb0
    have k0 : W0.cell? ⟨w.heap.size, 0, none⟩ = some (.int .i64 c0) := b0.cell 0
    have k1 : W0.cell? ⟨w.heap.size, 1, none⟩ = some (.int .i64 c1) := b0.cell 1
    have k2 : W0.cell? ⟨w.heap.size, 2, none⟩ = some (.int .i64 c2) := b0.cell 2
    have k3 : W0.cell? ⟨w.heap.size, 3, none⟩ = some (.int .i64 c3) := b0.cell 3
    have k4 : W0.cell? ⟨w.heap.size, 4, none⟩ = some (.int .i64 c4) := b0.cell 4
    have l0 : W0.cell? ⟨w.heap.size + 1, 0, none⟩ = some (.int .i64 o.code) := b1.cell 0
    have l1 : W0.cell? ⟨w.heap.size + 1, 1, none⟩ = some (.int .i64 o.acc) := b1.cell 1
    have l2 : W0.cell? ⟨w.heap.size + 1, 2, none⟩ = some (.int .i64 o.ast) := b1.cell 2
    have l3 : W0.cell? ⟨w.heap.size + 1, 3, none⟩ = some (.int .i64 o.qty) := b1.cell 3
    have l4 : W0.cell? ⟨w.heap.size + 1, 4, none⟩ = some (.int .i64 o.name) := b1.cell 4
    have l5 : W0.cell? ⟨w.heap.size + 1, 5, none⟩ = some (.int .i64 o.id) := b1.cell 5
    have l6 : W0.cell? ⟨w.heap.size + 1, 6, none⟩ = some (.slice LA o.legs.length lc) := b1.cell 6
    have l7 : W0.cell? ⟨w.heap.size + 1, 7, none⟩ = some (.slice PA o.pairs.length pc) := b1.cell 7
    clear b0 b1 hb0
    rw [hW0]
    clear hW0
    go_wp2_with (go_at_call 50; refine (place_calls _ _ _ _ _ _ _ _).mono ?_; rintro e w1 ⟨rfl, hb⟩; have l0' := InB.cell (w0 := W0) hb l0; have l3' := InB.cell (w0 := W0) hb l3; have l4' := InB.cell (w0 := W0) hb l4)
    go_ret
    exact ⟨rfl, HB.out.trans (Below.mono hb HB.out.size)⟩
  · replace hp := Classical.not_not.1 hp
    by_cases h0 : o.qty < 1
    · rw [if_pos hp]
      have hpb : ((placeN c0 c1 o.acc o.ast : Int) != 0) = false := by simpa using hp
      clear hp
      have hN : firstNZ [unlessN (decide (0 < o.qty)) 16] = 16 := first_hit1 (by decide) (decide_eq_false (by omega)) _
      rw [hN]
      clear hN
      have q1 : ((o.code : Int) == 1) = false := by rw [hc]; rfl
      have q2 : ((o.code : Int) == 2) = true := by rw [hc]; rfl
      have q3 : ((o.code : Int) == 3) = false := by rw [hc]; rfl
      have q4 : ((o.code : Int) == 4) = false := by rw [hc]; rfl
      have q5 : ((o.code : Int) == 5) = false := by rw [hc]; rfl
      have q6 : ((o.code : Int) == 6) = false := by rw [hc]; rfl
      have q7 : ((o.code : Int) == 7) = false := by rw [hc]; rfl
      have q8 : ((o.code : Int) == 8) = false := by rw [hc]; rfl
      clear hc
      go_enter Tryd.func22, Tryd.ntmps22
      go_wp2_with (fail)
      obtain ⟨W0, hW0⟩ : ∃ W0, (w.alloc (.cells #[.int .i64 c0, .int .i64 c1, .int .i64 c2, .int .i64 c3, .int .i64 c4] 23)).alloc (.cells #[.int .i64 o.code, .int .i64 o.acc, .int .i64 o.ast, .int .i64 o.qty, .int .i64 o.name, .int .i64 o.id, .slice LA o.legs.length lc, .slice PA o.pairs.length pc] 33) = W0 := ⟨_, rfl⟩
      have b0 : Blk W0 w.heap.size 23 #[.int .i64 c0, .int .i64 c1, .int .i64 c2, .int .i64 c3, .int .i64 c4] := hW0 ▸ (Blk.new _ _ _).alloc _
      have b1 : Blk W0 (w.heap.size + 1) 33 #[.int .i64 o.code, .int .i64 o.acc, .int .i64 o.ast, .int .i64 o.qty, .int .i64 o.name, .int .i64 o.id, .slice LA o.legs.length lc, .slice PA o.pairs.length pc] := by
        rw [← hW0, show w.heap.size + 1 = (w.alloc (.cells #[.int .i64 c0, .int .i64 c1, .int .i64 c2, .int .i64 c3, .int .i64 c4] 23)).heap.size by simp]
        exact Blk.new _ _ _
      have hb0 : Below w.heap.size w W0 := hW0 ▸ ((Below.refl _ _).alloc (Nat.le_refl _) _).alloc (by simp) _
      have HB := Lib.hid hb0
      have k0 : W0.cell? ⟨w.heap.size, 0, none⟩ = some (.int .i64 c0) := b0.cell 0
      have k1 : W0.cell? ⟨w.heap.size, 1, none⟩ = some (.int .i64 c1) := b0.cell 1
      have k2 : W0.cell? ⟨w.heap.size, 2, none⟩ = some (.int .i64 c2) := b0.cell 2
      have k3 : W0.cell? ⟨w.heap.size, 3, none⟩ = some (.int .i64 c3) := b0.cell 3
      have k4 : W0.cell? ⟨w.heap.size, 4, none⟩ = some (.int .i64 c4) := b0.cell 4
      have l0 : W0.cell? ⟨w.heap.size + 1, 0, none⟩ = some (.int .i64 o.code) := b1.cell 0
      have l1 : W0.cell? ⟨w.heap.size + 1, 1, none⟩ = some (.int .i64 o.acc) := b1.cell 1
      have l2 : W0.cell? ⟨w.heap.size + 1, 2, none⟩ = some (.int .i64 o.ast) := b1.cell 2
      have l3 : W0.cell? ⟨w.heap.size + 1, 3, none⟩ = some (.int .i64 o.qty) := b1.cell 3
      have l4 : W0.cell? ⟨w.heap.size + 1, 4, none⟩ = some (.int .i64 o.name) := b1.cell 4
      have l5 : W0.cell? ⟨w.heap.size + 1, 5, none⟩ = some (.int .i64 o.id) := b1.cell 5
      have l6 : W0.cell? ⟨w.heap.size + 1, 6, none⟩ = some (.slice LA o.legs.length lc) := b1.cell 6
      have l7 : W0.cell? ⟨w.heap.size + 1, 7, none⟩ = some (.slice PA o.pairs.length pc) := b1.cell 7
      clear b0 b1 hb0
      rw [hW0]
      clear hW0
      go_wp2_with (go_at_call 50; refine (place_calls _ _ _ _ _ _ _ _).mono ?_; rintro e w1 ⟨rfl, hb⟩; have l0' := InB.cell (w0 := W0) hb l0; have l3' := InB.cell (w0 := W0) hb l3; have l4' := InB.cell (w0 := W0) hb l4)
      go_ret
      exact ⟨rfl, HB.out.trans (Below.mono hb HB.out.size)⟩
    · replace h0 := Int.not_lt.1 h0
      rw [if_pos hp]
      have hpb : ((placeN c0 c1 o.acc o.ast : Int) != 0) = false := by simpa using hp
      clear hp
      have hN : firstNZ [unlessN (decide (0 < o.qty)) 16] = 0 := first_pass1 _ (decide_eq_true (by omega)) _
      rw [hN]
      clear hN
      have q1 : ((o.code : Int) == 1) = false := by rw [hc]; rfl
      have q2 : ((o.code : Int) == 2) = true := by rw [hc]; rfl
      have q3 : ((o.code : Int) == 3) = false := by rw [hc]; rfl
      have q4 : ((o.code : Int) == 4) = false := by rw [hc]; rfl
      have q5 : ((o.code : Int) == 5) = false := by rw [hc]; rfl
      have q6 : ((o.code : Int) == 6) = false := by rw [hc]; rfl
      have q7 : ((o.code : Int) == 7) = false := by rw [hc]; rfl
      have q8 : ((o.code : Int) == 8) = false := by rw [hc]; rfl
      clear hc
      go_enter Tryd.func22, Tryd.ntmps22
      go_wp2_with (fail)
      obtain ⟨W0, hW0⟩ : ∃ W0, (w.alloc (.cells #[.int .i64 c0, .int .i64 c1, .int .i64 c2, .int .i64 c3, .int .i64 c4] 23)).alloc (.cells #[.int .i64 o.code, .int .i64 o.acc, .int .i64 o.ast, .int .i64 o.qty, .int .i64 o.name, .int .i64 o.id, .slice LA o.legs.length lc, .slice PA o.pairs.length pc] 33) = W0 := ⟨_, rfl⟩
      have b0 : Blk W0 w.heap.size 23 #[.int .i64 c0, .int .i64 c1, .int .i64 c2, .int .i64 c3, .int .i64 c4] := hW0 ▸ (Blk.new _ _ _).alloc _
      have b1 : Blk W0 (w.heap.size + 1) 33 #[.int .i64 o.code, .int .i64 o.acc, .int .i64 o.ast, .int .i64 o.qty, .int .i64 o.name, .int .i64 o.id, .slice LA o.legs.length lc, .slice PA o.pairs.length pc] := by
        rw [← hW0, show w.heap.size + 1 = (w.alloc (.cells #[.int .i64 c0, .int .i64 c1, .int .i64 c2, .int .i64 c3, .int .i64 c4] 23)).heap.size by simp]
        exact Blk.new _ _ _
      have hb0 : Below w.heap.size w W0 := hW0 ▸ ((Below.refl _ _).alloc (Nat.le_refl _) _).alloc (by simp) _
      have HB := Lib.hid hb0
      have k0 : W0.cell? ⟨w.heap.size, 0, none⟩ = some (.int .i64 c0) := b0.cell 0
      have k1 : W0.cell? ⟨w.heap.size, 1, none⟩ = some (.int .i64 c1) := b0.cell 1
      have k2 : W0.cell? ⟨w.heap.size, 2, none⟩ = some (.int .i64 c2) := b0.cell 2
      have k3 : W0.cell? ⟨w.heap.size, 3, none⟩ = some (.int .i64 c3) := b0.cell 3
      have k4 : W0.cell? ⟨w.heap.size, 4, none⟩ = some (.int .i64 c4) := b0.cell 4
      have l0 : W0.cell? ⟨w.heap.size + 1, 0, none⟩ = some (.int .i64 o.code) := b1.cell 0
      have l1 : W0.cell? ⟨w.heap.size + 1, 1, none⟩ = some (.int .i64 o.acc) := b1.cell 1
      have l2 : W0.cell? ⟨w.heap.size + 1, 2, none⟩ = some (.int .i64 o.ast) := b1.cell 2
      have l3 : W0.cell? ⟨w.heap.size + 1, 3, none⟩ = some (.int .i64 o.qty) := b1.cell 3
      have l4 : W0.cell? ⟨w.heap.size + 1, 4, none⟩ = some (.int .i64 o.name) := b1.cell 4
      have l5 : W0.cell? ⟨w.heap.size + 1, 5, none⟩ = some (.int .i64 o.id) := b1.cell 5
      have l6 : W0.cell? ⟨w.heap.size + 1, 6, none⟩ = some (.slice LA o.legs.length lc) := b1.cell 6
      have l7 : W0.cell? ⟨w.heap.size + 1, 7, none⟩ = some (.slice PA o.pairs.length pc) := b1.cell 7
      clear b0 b1 hb0
      rw [hW0]
      clear hW0
      go_wp2_with (go_at_call 50; refine (place_calls _ _ _ _ _ _ _ _).mono ?_; rintro e w1 ⟨rfl, hb⟩; have l0' := InB.cell (w0 := W0) hb l0; have l3' := InB.cell (w0 := W0) hb l3; have l4' := InB.cell (w0 := W0) hb l4)
      go_ret
      exact ⟨rfl, HB.out.trans (Below.mono hb HB.out.size)⟩

set_option maxRecDepth 100000 in
set_option maxHeartbeats 4000000 in
theorem rcheck3 (c0 c1 c2 c3 c4 : Int) (o : Op) (LA PA : Option Addr) (lc pc : Nat) (w : World) (hc : o.code = 3) :
    Calls Tryd.prog 22 #[.agg #[.int .i64 c0, .int .i64 c1, .int .i64 c2, .int .i64 c3, .int .i64 c4], .agg #[.int .i64 o.code, .int .i64 o.acc, .int .i64 o.ast, .int .i64 o.qty, .int .i64 o.name, .int .i64 o.id, .slice LA o.legs.length lc, .slice PA o.pairs.length pc]] w fun e w' => e = .returned (.int .i64 (firstNZ [unlessN (belowB o.acc c0) 14, unlessN (belowB o.ast c1) 15, unlessN (decide (0 < o.qty)) 16, unlessN (withinB o.name 1 65536) 19])) ∧ Below w.heap.size w w' := by
  rw [firstNZ_two, show firstNZ [unlessN (belowB o.acc c0) 14, unlessN (belowB o.ast c1) 15] = placeN c0 c1 o.acc o.ast from rfl]
  by_cases hp : ¬ placeN c0 c1 o.acc o.ast = 0
  · rw [if_neg hp]
    have hpb : ((placeN c0 c1 o.acc o.ast : Int) != 0) = true := by simpa using hp
    clear hp
    have q1 : ((o.code : Int) == 1) = false := by rw [hc]; rfl
    have q2 : ((o.code : Int) == 2) = false := by rw [hc]; rfl
    have q3 : ((o.code : Int) == 3) = true := by rw [hc]; rfl
    have q4 : ((o.code : Int) == 4) = false := by rw [hc]; rfl
    have q5 : ((o.code : Int) == 5) = false := by rw [hc]; rfl
    have q6 : ((o.code : Int) == 6) = false := by rw [hc]; rfl
    have q7 : ((o.code : Int) == 7) = false := by rw [hc]; rfl
    have q8 : ((o.code : Int) == 8) = false := by rw [hc]; rfl
    clear hc
    go_enter Tryd.func22, Tryd.ntmps22
    go_wp2_with (fail)
    obtain ⟨W0, hW0⟩ : ∃ W0, (w.alloc (.cells #[.int .i64 c0, .int .i64 c1, .int .i64 c2, .int .i64 c3, .int .i64 c4] 23)).alloc (.cells #[.int .i64 o.code, .int .i64 o.acc, .int .i64 o.ast, .int .i64 o.qty, .int .i64 o.name, .int .i64 o.id, .slice LA o.legs.length lc, .slice PA o.pairs.length pc] 33) = W0 := ⟨_, rfl⟩
    have b0 : Blk W0 w.heap.size 23 #[.int .i64 c0, .int .i64 c1, .int .i64 c2, .int .i64 c3, .int .i64 c4] := hW0 ▸ (Blk.new _ _ _).alloc _
    have b1 : Blk W0 (w.heap.size + 1) 33 #[.int .i64 o.code, .int .i64 o.acc, .int .i64 o.ast, .int .i64 o.qty, .int .i64 o.name, .int .i64 o.id, .slice LA o.legs.length lc, .slice PA o.pairs.length pc] := by
      rw [← hW0, show w.heap.size + 1 = (w.alloc (.cells #[.int .i64 c0, .int .i64 c1, .int .i64 c2, .int .i64 c3, .int .i64 c4] 23)).heap.size by simp]
      exact Blk.new _ _ _
    have hb0 : Below w.heap.size w W0 := hW0 ▸ ((Below.refl _ _).alloc (Nat.le_refl _) _).alloc (by simp) _
    have HB := Lib.hid hb0
    have k0 : W0.cell? ⟨w.heap.size, 0, none⟩ = some (.int .i64 c0) := b0.cell 0
    have k1 : W0.cell? ⟨w.heap.size, 1, none⟩ = some (.int .i64 c1) := b0.cell 1
    have k2 : W0.cell? ⟨w.heap.size, 2, none⟩ = some (.int .i64 c2) := b0.cell 2
    have k3 : W0.cell? ⟨w.heap.size, 3, none⟩ = some (.int .i64 c3) := b0.cell 3
    have k4 : W0.cell? ⟨w.heap.size, 4, none⟩ = some (.int .i64 c4) := b0.cell 4
    have l0 : W0.cell? ⟨w.heap.size + 1, 0, none⟩ = some (.int .i64 o.code) := b1.cell 0
    have l1 : W0.cell? ⟨w.heap.size + 1, 1, none⟩ = some (.int .i64 o.acc) := b1.cell 1
    have l2 : W0.cell? ⟨w.heap.size + 1, 2, none⟩ = some (.int .i64 o.ast) := b1.cell 2
    have l3 : W0.cell? ⟨w.heap.size + 1, 3, none⟩ = some (.int .i64 o.qty) := b1.cell 3
    have l4 : W0.cell? ⟨w.heap.size + 1, 4, none⟩ = some (.int .i64 o.name) := b1.cell 4
    have l5 : W0.cell? ⟨w.heap.size + 1, 5, none⟩ = some (.int .i64 o.id) := b1.cell 5
    have l6 : W0.cell? ⟨w.heap.size + 1, 6, none⟩ = some (.slice LA o.legs.length lc) := b1.cell 6
    have l7 : W0.cell? ⟨w.heap.size + 1, 7, none⟩ = some (.slice PA o.pairs.length pc) := b1.cell 7
    clear b0 b1 hb0
    rw [hW0]
    clear hW0
    go_wp2_with (go_at_call 50; refine (place_calls _ _ _ _ _ _ _ _).mono ?_; rintro e w1 ⟨rfl, hb⟩; have l0' := InB.cell (w0 := W0) hb l0; have l3' := InB.cell (w0 := W0) hb l3; have l4' := InB.cell (w0 := W0) hb l4)
    go_ret
    exact ⟨rfl, HB.out.trans (Below.mono hb HB.out.size)⟩
  · replace hp := Classical.not_not.1 hp
    by_cases h0 : o.qty < 1
    · rw [if_pos hp]
      have hpb : ((placeN c0 c1 o.acc o.ast : Int) != 0) = false := by simpa using hp
      clear hp
      have hN : firstNZ [unlessN (decide (0 < o.qty)) 16, unlessN (withinB o.name 1 65536) 19] = 16 := first_hit1 (by decide) (decide_eq_false (by omega)) _
      rw [hN]
      clear hN
      have q1 : ((o.code : Int) == 1) = false := by rw [hc]; rfl
      have q2 : ((o.code : Int) == 2) = false := by rw [hc]; rfl
      have q3 : ((o.code : Int) == 3) = true := by rw [hc]; rfl
      have q4 : ((o.code : Int) == 4) = false := by rw [hc]; rfl
      have q5 : ((o.code : Int) == 5) = false := by rw [hc]; rfl
      have q6 : ((o.code : Int) == 6) = false := by rw [hc]; rfl
      have q7 : ((o.code : Int) == 7) = false := by rw [hc]; rfl
      have q8 : ((o.code : Int) == 8) = false := by rw [hc]; rfl
      clear hc
      go_enter Tryd.func22, Tryd.ntmps22
      go_wp2_with (fail)
      obtain ⟨W0, hW0⟩ : ∃ W0, (w.alloc (.cells #[.int .i64 c0, .int .i64 c1, .int .i64 c2, .int .i64 c3, .int .i64 c4] 23)).alloc (.cells #[.int .i64 o.code, .int .i64 o.acc, .int .i64 o.ast, .int .i64 o.qty, .int .i64 o.name, .int .i64 o.id, .slice LA o.legs.length lc, .slice PA o.pairs.length pc] 33) = W0 := ⟨_, rfl⟩
      have b0 : Blk W0 w.heap.size 23 #[.int .i64 c0, .int .i64 c1, .int .i64 c2, .int .i64 c3, .int .i64 c4] := hW0 ▸ (Blk.new _ _ _).alloc _
      have b1 : Blk W0 (w.heap.size + 1) 33 #[.int .i64 o.code, .int .i64 o.acc, .int .i64 o.ast, .int .i64 o.qty, .int .i64 o.name, .int .i64 o.id, .slice LA o.legs.length lc, .slice PA o.pairs.length pc] := by
        rw [← hW0, show w.heap.size + 1 = (w.alloc (.cells #[.int .i64 c0, .int .i64 c1, .int .i64 c2, .int .i64 c3, .int .i64 c4] 23)).heap.size by simp]
        exact Blk.new _ _ _
      have hb0 : Below w.heap.size w W0 := hW0 ▸ ((Below.refl _ _).alloc (Nat.le_refl _) _).alloc (by simp) _
      have HB := Lib.hid hb0
      have k0 : W0.cell? ⟨w.heap.size, 0, none⟩ = some (.int .i64 c0) := b0.cell 0
      have k1 : W0.cell? ⟨w.heap.size, 1, none⟩ = some (.int .i64 c1) := b0.cell 1
      have k2 : W0.cell? ⟨w.heap.size, 2, none⟩ = some (.int .i64 c2) := b0.cell 2
      have k3 : W0.cell? ⟨w.heap.size, 3, none⟩ = some (.int .i64 c3) := b0.cell 3
      have k4 : W0.cell? ⟨w.heap.size, 4, none⟩ = some (.int .i64 c4) := b0.cell 4
      have l0 : W0.cell? ⟨w.heap.size + 1, 0, none⟩ = some (.int .i64 o.code) := b1.cell 0
      have l1 : W0.cell? ⟨w.heap.size + 1, 1, none⟩ = some (.int .i64 o.acc) := b1.cell 1
      have l2 : W0.cell? ⟨w.heap.size + 1, 2, none⟩ = some (.int .i64 o.ast) := b1.cell 2
      have l3 : W0.cell? ⟨w.heap.size + 1, 3, none⟩ = some (.int .i64 o.qty) := b1.cell 3
      have l4 : W0.cell? ⟨w.heap.size + 1, 4, none⟩ = some (.int .i64 o.name) := b1.cell 4
      have l5 : W0.cell? ⟨w.heap.size + 1, 5, none⟩ = some (.int .i64 o.id) := b1.cell 5
      have l6 : W0.cell? ⟨w.heap.size + 1, 6, none⟩ = some (.slice LA o.legs.length lc) := b1.cell 6
      have l7 : W0.cell? ⟨w.heap.size + 1, 7, none⟩ = some (.slice PA o.pairs.length pc) := b1.cell 7
      clear b0 b1 hb0
      rw [hW0]
      clear hW0
      go_wp2_with (go_at_call 50; refine (place_calls _ _ _ _ _ _ _ _).mono ?_; rintro e w1 ⟨rfl, hb⟩; have l0' := InB.cell (w0 := W0) hb l0; have l3' := InB.cell (w0 := W0) hb l3; have l4' := InB.cell (w0 := W0) hb l4)
      go_ret
      exact ⟨rfl, HB.out.trans (Below.mono hb HB.out.size)⟩
    · replace h0 := Int.not_lt.1 h0
      by_cases h1 : o.name < 1
      · rw [if_pos hp]
        have hpb : ((placeN c0 c1 o.acc o.ast : Int) != 0) = false := by simpa using hp
        clear hp
        have hN : firstNZ [unlessN (decide (0 < o.qty)) 16, unlessN (withinB o.name 1 65536) 19] = 19 := (first_pass1 _ (decide_eq_true (by omega)) _).trans (first_hit1 (by decide) (withinB_lo h1) _)
        rw [hN]
        clear hN
        have q1 : ((o.code : Int) == 1) = false := by rw [hc]; rfl
        have q2 : ((o.code : Int) == 2) = false := by rw [hc]; rfl
        have q3 : ((o.code : Int) == 3) = true := by rw [hc]; rfl
        have q4 : ((o.code : Int) == 4) = false := by rw [hc]; rfl
        have q5 : ((o.code : Int) == 5) = false := by rw [hc]; rfl
        have q6 : ((o.code : Int) == 6) = false := by rw [hc]; rfl
        have q7 : ((o.code : Int) == 7) = false := by rw [hc]; rfl
        have q8 : ((o.code : Int) == 8) = false := by rw [hc]; rfl
        clear hc
        go_enter Tryd.func22, Tryd.ntmps22
        go_wp2_with (fail)
        obtain ⟨W0, hW0⟩ : ∃ W0, (w.alloc (.cells #[.int .i64 c0, .int .i64 c1, .int .i64 c2, .int .i64 c3, .int .i64 c4] 23)).alloc (.cells #[.int .i64 o.code, .int .i64 o.acc, .int .i64 o.ast, .int .i64 o.qty, .int .i64 o.name, .int .i64 o.id, .slice LA o.legs.length lc, .slice PA o.pairs.length pc] 33) = W0 := ⟨_, rfl⟩
        have b0 : Blk W0 w.heap.size 23 #[.int .i64 c0, .int .i64 c1, .int .i64 c2, .int .i64 c3, .int .i64 c4] := hW0 ▸ (Blk.new _ _ _).alloc _
        have b1 : Blk W0 (w.heap.size + 1) 33 #[.int .i64 o.code, .int .i64 o.acc, .int .i64 o.ast, .int .i64 o.qty, .int .i64 o.name, .int .i64 o.id, .slice LA o.legs.length lc, .slice PA o.pairs.length pc] := by
          rw [← hW0, show w.heap.size + 1 = (w.alloc (.cells #[.int .i64 c0, .int .i64 c1, .int .i64 c2, .int .i64 c3, .int .i64 c4] 23)).heap.size by simp]
          exact Blk.new _ _ _
        have hb0 : Below w.heap.size w W0 := hW0 ▸ ((Below.refl _ _).alloc (Nat.le_refl _) _).alloc (by simp) _
        have HB := Lib.hid hb0
        have k0 : W0.cell? ⟨w.heap.size, 0, none⟩ = some (.int .i64 c0) := b0.cell 0
        have k1 : W0.cell? ⟨w.heap.size, 1, none⟩ = some (.int .i64 c1) := b0.cell 1
        have k2 : W0.cell? ⟨w.heap.size, 2, none⟩ = some (.int .i64 c2) := b0.cell 2
        have k3 : W0.cell? ⟨w.heap.size, 3, none⟩ = some (.int .i64 c3) := b0.cell 3
        have k4 : W0.cell? ⟨w.heap.size, 4, none⟩ = some (.int .i64 c4) := b0.cell 4
        have l0 : W0.cell? ⟨w.heap.size + 1, 0, none⟩ = some (.int .i64 o.code) := b1.cell 0
        have l1 : W0.cell? ⟨w.heap.size + 1, 1, none⟩ = some (.int .i64 o.acc) := b1.cell 1
        have l2 : W0.cell? ⟨w.heap.size + 1, 2, none⟩ = some (.int .i64 o.ast) := b1.cell 2
        have l3 : W0.cell? ⟨w.heap.size + 1, 3, none⟩ = some (.int .i64 o.qty) := b1.cell 3
        have l4 : W0.cell? ⟨w.heap.size + 1, 4, none⟩ = some (.int .i64 o.name) := b1.cell 4
        have l5 : W0.cell? ⟨w.heap.size + 1, 5, none⟩ = some (.int .i64 o.id) := b1.cell 5
        have l6 : W0.cell? ⟨w.heap.size + 1, 6, none⟩ = some (.slice LA o.legs.length lc) := b1.cell 6
        have l7 : W0.cell? ⟨w.heap.size + 1, 7, none⟩ = some (.slice PA o.pairs.length pc) := b1.cell 7
        clear b0 b1 hb0
        rw [hW0]
        clear hW0
        go_wp2_with (go_at_call 50; refine (place_calls _ _ _ _ _ _ _ _).mono ?_; rintro e w1 ⟨rfl, hb⟩; have l0' := InB.cell (w0 := W0) hb l0; have l3' := InB.cell (w0 := W0) hb l3; have l4' := InB.cell (w0 := W0) hb l4)
        go_ret
        exact ⟨rfl, HB.out.trans (Below.mono hb HB.out.size)⟩
      · replace h1 := Int.not_lt.1 h1
        by_cases h2 : 65536 < o.name
        · rw [if_pos hp]
          have hpb : ((placeN c0 c1 o.acc o.ast : Int) != 0) = false := by simpa using hp
          clear hp
          have hN : firstNZ [unlessN (decide (0 < o.qty)) 16, unlessN (withinB o.name 1 65536) 19] = 19 := (first_pass1 _ (decide_eq_true (by omega)) _).trans (first_hit1 (by decide) (withinB_hi h2) _)
          rw [hN]
          clear hN
          have q1 : ((o.code : Int) == 1) = false := by rw [hc]; rfl
          have q2 : ((o.code : Int) == 2) = false := by rw [hc]; rfl
          have q3 : ((o.code : Int) == 3) = true := by rw [hc]; rfl
          have q4 : ((o.code : Int) == 4) = false := by rw [hc]; rfl
          have q5 : ((o.code : Int) == 5) = false := by rw [hc]; rfl
          have q6 : ((o.code : Int) == 6) = false := by rw [hc]; rfl
          have q7 : ((o.code : Int) == 7) = false := by rw [hc]; rfl
          have q8 : ((o.code : Int) == 8) = false := by rw [hc]; rfl
          clear hc
          go_enter Tryd.func22, Tryd.ntmps22
          go_wp2_with (fail)
          obtain ⟨W0, hW0⟩ : ∃ W0, (w.alloc (.cells #[.int .i64 c0, .int .i64 c1, .int .i64 c2, .int .i64 c3, .int .i64 c4] 23)).alloc (.cells #[.int .i64 o.code, .int .i64 o.acc, .int .i64 o.ast, .int .i64 o.qty, .int .i64 o.name, .int .i64 o.id, .slice LA o.legs.length lc, .slice PA o.pairs.length pc] 33) = W0 := ⟨_, rfl⟩
          have b0 : Blk W0 w.heap.size 23 #[.int .i64 c0, .int .i64 c1, .int .i64 c2, .int .i64 c3, .int .i64 c4] := hW0 ▸ (Blk.new _ _ _).alloc _
          have b1 : Blk W0 (w.heap.size + 1) 33 #[.int .i64 o.code, .int .i64 o.acc, .int .i64 o.ast, .int .i64 o.qty, .int .i64 o.name, .int .i64 o.id, .slice LA o.legs.length lc, .slice PA o.pairs.length pc] := by
            rw [← hW0, show w.heap.size + 1 = (w.alloc (.cells #[.int .i64 c0, .int .i64 c1, .int .i64 c2, .int .i64 c3, .int .i64 c4] 23)).heap.size by simp]
            exact Blk.new _ _ _
          have hb0 : Below w.heap.size w W0 := hW0 ▸ ((Below.refl _ _).alloc (Nat.le_refl _) _).alloc (by simp) _
          have HB := Lib.hid hb0
          have k0 : W0.cell? ⟨w.heap.size, 0, none⟩ = some (.int .i64 c0) := b0.cell 0
          have k1 : W0.cell? ⟨w.heap.size, 1, none⟩ = some (.int .i64 c1) := b0.cell 1
          have k2 : W0.cell? ⟨w.heap.size, 2, none⟩ = some (.int .i64 c2) := b0.cell 2
          have k3 : W0.cell? ⟨w.heap.size, 3, none⟩ = some (.int .i64 c3) := b0.cell 3
          have k4 : W0.cell? ⟨w.heap.size, 4, none⟩ = some (.int .i64 c4) := b0.cell 4
          have l0 : W0.cell? ⟨w.heap.size + 1, 0, none⟩ = some (.int .i64 o.code) := b1.cell 0
          have l1 : W0.cell? ⟨w.heap.size + 1, 1, none⟩ = some (.int .i64 o.acc) := b1.cell 1
          have l2 : W0.cell? ⟨w.heap.size + 1, 2, none⟩ = some (.int .i64 o.ast) := b1.cell 2
          have l3 : W0.cell? ⟨w.heap.size + 1, 3, none⟩ = some (.int .i64 o.qty) := b1.cell 3
          have l4 : W0.cell? ⟨w.heap.size + 1, 4, none⟩ = some (.int .i64 o.name) := b1.cell 4
          have l5 : W0.cell? ⟨w.heap.size + 1, 5, none⟩ = some (.int .i64 o.id) := b1.cell 5
          have l6 : W0.cell? ⟨w.heap.size + 1, 6, none⟩ = some (.slice LA o.legs.length lc) := b1.cell 6
          have l7 : W0.cell? ⟨w.heap.size + 1, 7, none⟩ = some (.slice PA o.pairs.length pc) := b1.cell 7
          clear b0 b1 hb0
          rw [hW0]
          clear hW0
          go_wp2_with (go_at_call 50; refine (place_calls _ _ _ _ _ _ _ _).mono ?_; rintro e w1 ⟨rfl, hb⟩; have l0' := InB.cell (w0 := W0) hb l0; have l3' := InB.cell (w0 := W0) hb l3; have l4' := InB.cell (w0 := W0) hb l4)
          go_ret
          exact ⟨rfl, HB.out.trans (Below.mono hb HB.out.size)⟩
        · replace h2 := Int.not_lt.1 h2
          rw [if_pos hp]
          have hpb : ((placeN c0 c1 o.acc o.ast : Int) != 0) = false := by simpa using hp
          clear hp
          have hN : firstNZ [unlessN (decide (0 < o.qty)) 16, unlessN (withinB o.name 1 65536) 19] = 0 := (first_pass1 _ (decide_eq_true (by omega)) _).trans (first_pass1 _ (withinB_in h1 h2) _)
          rw [hN]
          clear hN
          have q1 : ((o.code : Int) == 1) = false := by rw [hc]; rfl
          have q2 : ((o.code : Int) == 2) = false := by rw [hc]; rfl
          have q3 : ((o.code : Int) == 3) = true := by rw [hc]; rfl
          have q4 : ((o.code : Int) == 4) = false := by rw [hc]; rfl
          have q5 : ((o.code : Int) == 5) = false := by rw [hc]; rfl
          have q6 : ((o.code : Int) == 6) = false := by rw [hc]; rfl
          have q7 : ((o.code : Int) == 7) = false := by rw [hc]; rfl
          have q8 : ((o.code : Int) == 8) = false := by rw [hc]; rfl
          clear hc
          go_enter Tryd.func22, Tryd.ntmps22
          go_wp2_with (fail)
          obtain ⟨W0, hW0⟩ : ∃ W0, (w.alloc (.cells #[.int .i64 c0, .int .i64 c1, .int .i64 c2, .int .i64 c3, .int .i64 c4] 23)).alloc (.cells #[.int .i64 o.code, .int .i64 o.acc, .int .i64 o.ast, .int .i64 o.qty, .int .i64 o.name, .int .i64 o.id, .slice LA o.legs.length lc, .slice PA o.pairs.length pc] 33) = W0 := ⟨_, rfl⟩
          have b0 : Blk W0 w.heap.size 23 #[.int .i64 c0, .int .i64 c1, .int .i64 c2, .int .i64 c3, .int .i64 c4] := hW0 ▸ (Blk.new _ _ _).alloc _
          have b1 : Blk W0 (w.heap.size + 1) 33 #[.int .i64 o.code, .int .i64 o.acc, .int .i64 o.ast, .int .i64 o.qty, .int .i64 o.name, .int .i64 o.id, .slice LA o.legs.length lc, .slice PA o.pairs.length pc] := by
            rw [← hW0, show w.heap.size + 1 = (w.alloc (.cells #[.int .i64 c0, .int .i64 c1, .int .i64 c2, .int .i64 c3, .int .i64 c4] 23)).heap.size by simp]
            exact Blk.new _ _ _
          have hb0 : Below w.heap.size w W0 := hW0 ▸ ((Below.refl _ _).alloc (Nat.le_refl _) _).alloc (by simp) _
          have HB := Lib.hid hb0
          have k0 : W0.cell? ⟨w.heap.size, 0, none⟩ = some (.int .i64 c0) := b0.cell 0
          have k1 : W0.cell? ⟨w.heap.size, 1, none⟩ = some (.int .i64 c1) := b0.cell 1
          have k2 : W0.cell? ⟨w.heap.size, 2, none⟩ = some (.int .i64 c2) := b0.cell 2
          have k3 : W0.cell? ⟨w.heap.size, 3, none⟩ = some (.int .i64 c3) := b0.cell 3
          have k4 : W0.cell? ⟨w.heap.size, 4, none⟩ = some (.int .i64 c4) := b0.cell 4
          have l0 : W0.cell? ⟨w.heap.size + 1, 0, none⟩ = some (.int .i64 o.code) := b1.cell 0
          have l1 : W0.cell? ⟨w.heap.size + 1, 1, none⟩ = some (.int .i64 o.acc) := b1.cell 1
          have l2 : W0.cell? ⟨w.heap.size + 1, 2, none⟩ = some (.int .i64 o.ast) := b1.cell 2
          have l3 : W0.cell? ⟨w.heap.size + 1, 3, none⟩ = some (.int .i64 o.qty) := b1.cell 3
          have l4 : W0.cell? ⟨w.heap.size + 1, 4, none⟩ = some (.int .i64 o.name) := b1.cell 4
          have l5 : W0.cell? ⟨w.heap.size + 1, 5, none⟩ = some (.int .i64 o.id) := b1.cell 5
          have l6 : W0.cell? ⟨w.heap.size + 1, 6, none⟩ = some (.slice LA o.legs.length lc) := b1.cell 6
          have l7 : W0.cell? ⟨w.heap.size + 1, 7, none⟩ = some (.slice PA o.pairs.length pc) := b1.cell 7
          clear b0 b1 hb0
          rw [hW0]
          clear hW0
          go_wp2_with (go_at_call 50; refine (place_calls _ _ _ _ _ _ _ _).mono ?_; rintro e w1 ⟨rfl, hb⟩; have l0' := InB.cell (w0 := W0) hb l0; have l3' := InB.cell (w0 := W0) hb l3; have l4' := InB.cell (w0 := W0) hb l4)
          go_ret
          exact ⟨rfl, HB.out.trans (Below.mono hb HB.out.size)⟩

set_option maxRecDepth 100000 in
set_option maxHeartbeats 4000000 in
theorem rcheck4 (c0 c1 c2 c3 c4 : Int) (o : Op) (LA PA : Option Addr) (lc pc : Nat) (w : World) (hc : o.code = 4) :
    Calls Tryd.prog 22 #[.agg #[.int .i64 c0, .int .i64 c1, .int .i64 c2, .int .i64 c3, .int .i64 c4], .agg #[.int .i64 o.code, .int .i64 o.acc, .int .i64 o.ast, .int .i64 o.qty, .int .i64 o.name, .int .i64 o.id, .slice LA o.legs.length lc, .slice PA o.pairs.length pc]] w fun e w' => e = .returned (.int .i64 (firstNZ [unlessN (belowB o.acc c0) 14, unlessN (belowB o.ast c1) 15, unlessN (decide (0 < o.qty)) 16, unlessN (withinB o.name 1 65536) 19])) ∧ Below w.heap.size w w' := by
  rw [firstNZ_two, show firstNZ [unlessN (belowB o.acc c0) 14, unlessN (belowB o.ast c1) 15] = placeN c0 c1 o.acc o.ast from rfl]
  by_cases hp : ¬ placeN c0 c1 o.acc o.ast = 0
  · rw [if_neg hp]
    have hpb : ((placeN c0 c1 o.acc o.ast : Int) != 0) = true := by simpa using hp
    clear hp
    have q1 : ((o.code : Int) == 1) = false := by rw [hc]; rfl
    have q2 : ((o.code : Int) == 2) = false := by rw [hc]; rfl
    have q3 : ((o.code : Int) == 3) = false := by rw [hc]; rfl
    have q4 : ((o.code : Int) == 4) = true := by rw [hc]; rfl
    have q5 : ((o.code : Int) == 5) = false := by rw [hc]; rfl
    have q6 : ((o.code : Int) == 6) = false := by rw [hc]; rfl
    have q7 : ((o.code : Int) == 7) = false := by rw [hc]; rfl
    have q8 : ((o.code : Int) == 8) = false := by rw [hc]; rfl
    clear hc
    go_enter Tryd.func22, Tryd.ntmps22
    go_wp2_with (fail)
    obtain ⟨W0, hW0⟩ : ∃ W0, (w.alloc (.cells #[.int .i64 c0, .int .i64 c1, .int .i64 c2, .int .i64 c3, .int .i64 c4] 23)).alloc (.cells #[.int .i64 o.code, .int .i64 o.acc, .int .i64 o.ast, .int .i64 o.qty, .int .i64 o.name, .int .i64 o.id, .slice LA o.legs.length lc, .slice PA o.pairs.length pc] 33) = W0 := ⟨_, rfl⟩
    have b0 : Blk W0 w.heap.size 23 #[.int .i64 c0, .int .i64 c1, .int .i64 c2, .int .i64 c3, .int .i64 c4] := hW0 ▸ (Blk.new _ _ _).alloc _
    have b1 : Blk W0 (w.heap.size + 1) 33 #[.int .i64 o.code, .int .i64 o.acc, .int .i64 o.ast, .int .i64 o.qty, .int .i64 o.name, .int .i64 o.id, .slice LA o.legs.length lc, .slice PA o.pairs.length pc] := by
      rw [← hW0, show w.heap.size + 1 = (w.alloc (.cells #[.int .i64 c0, .int .i64 c1, .int .i64 c2, .int .i64 c3, .int .i64 c4] 23)).heap.size by simp]
      exact Blk.new _ _ _
    have hb0 : Below w.heap.size w W0 := hW0 ▸ ((Below.refl _ _).alloc (Nat.le_refl _) _).alloc (by simp) _
    have HB := Lib.hid hb0
    have k0 : W0.cell? ⟨w.heap.size, 0, none⟩ = some (.int .i64 c0) := b0.cell 0
    have k1 : W0.cell? ⟨w.heap.size, 1, none⟩ = some (.int .i64 c1) := b0.cell 1
    have k2 : W0.cell? ⟨w.heap.size, 2, none⟩ = some (.int .i64 c2) := b0.cell 2
    have k3 : W0.cell? ⟨w.heap.size, 3, none⟩ = some (.int .i64 c3) := b0.cell 3
    have k4 : W0.cell? ⟨w.heap.size, 4, none⟩ = some (.int .i64 c4) := b0.cell 4
    have l0 : W0.cell? ⟨w.heap.size + 1, 0, none⟩ = some (.int .i64 o.code) := b1.cell 0
    have l1 : W0.cell? ⟨w.heap.size + 1, 1, none⟩ = some (.int .i64 o.acc) := b1.cell 1
    have l2 : W0.cell? ⟨w.heap.size + 1, 2, none⟩ = some (.int .i64 o.ast) := b1.cell 2
    have l3 : W0.cell? ⟨w.heap.size + 1, 3, none⟩ = some (.int .i64 o.qty) := b1.cell 3
    have l4 : W0.cell? ⟨w.heap.size + 1, 4, none⟩ = some (.int .i64 o.name) := b1.cell 4
    have l5 : W0.cell? ⟨w.heap.size + 1, 5, none⟩ = some (.int .i64 o.id) := b1.cell 5
    have l6 : W0.cell? ⟨w.heap.size + 1, 6, none⟩ = some (.slice LA o.legs.length lc) := b1.cell 6
    have l7 : W0.cell? ⟨w.heap.size + 1, 7, none⟩ = some (.slice PA o.pairs.length pc) := b1.cell 7
    clear b0 b1 hb0
    rw [hW0]
    clear hW0
    go_wp2_with (go_at_call 50; refine (place_calls _ _ _ _ _ _ _ _).mono ?_; rintro e w1 ⟨rfl, hb⟩; have l0' := InB.cell (w0 := W0) hb l0; have l3' := InB.cell (w0 := W0) hb l3; have l4' := InB.cell (w0 := W0) hb l4)
    go_ret
    exact ⟨rfl, HB.out.trans (Below.mono hb HB.out.size)⟩
  · replace hp := Classical.not_not.1 hp
    by_cases h0 : o.qty < 1
    · rw [if_pos hp]
      have hpb : ((placeN c0 c1 o.acc o.ast : Int) != 0) = false := by simpa using hp
      clear hp
      have hN : firstNZ [unlessN (decide (0 < o.qty)) 16, unlessN (withinB o.name 1 65536) 19] = 16 := first_hit1 (by decide) (decide_eq_false (by omega)) _
      rw [hN]
      clear hN
      have q1 : ((o.code : Int) == 1) = false := by rw [hc]; rfl
      have q2 : ((o.code : Int) == 2) = false := by rw [hc]; rfl
      have q3 : ((o.code : Int) == 3) = false := by rw [hc]; rfl
      have q4 : ((o.code : Int) == 4) = true := by rw [hc]; rfl
      have q5 : ((o.code : Int) == 5) = false := by rw [hc]; rfl
      have q6 : ((o.code : Int) == 6) = false := by rw [hc]; rfl
      have q7 : ((o.code : Int) == 7) = false := by rw [hc]; rfl
      have q8 : ((o.code : Int) == 8) = false := by rw [hc]; rfl
      clear hc
      go_enter Tryd.func22, Tryd.ntmps22
      go_wp2_with (fail)
      obtain ⟨W0, hW0⟩ : ∃ W0, (w.alloc (.cells #[.int .i64 c0, .int .i64 c1, .int .i64 c2, .int .i64 c3, .int .i64 c4] 23)).alloc (.cells #[.int .i64 o.code, .int .i64 o.acc, .int .i64 o.ast, .int .i64 o.qty, .int .i64 o.name, .int .i64 o.id, .slice LA o.legs.length lc, .slice PA o.pairs.length pc] 33) = W0 := ⟨_, rfl⟩
      have b0 : Blk W0 w.heap.size 23 #[.int .i64 c0, .int .i64 c1, .int .i64 c2, .int .i64 c3, .int .i64 c4] := hW0 ▸ (Blk.new _ _ _).alloc _
      have b1 : Blk W0 (w.heap.size + 1) 33 #[.int .i64 o.code, .int .i64 o.acc, .int .i64 o.ast, .int .i64 o.qty, .int .i64 o.name, .int .i64 o.id, .slice LA o.legs.length lc, .slice PA o.pairs.length pc] := by
        rw [← hW0, show w.heap.size + 1 = (w.alloc (.cells #[.int .i64 c0, .int .i64 c1, .int .i64 c2, .int .i64 c3, .int .i64 c4] 23)).heap.size by simp]
        exact Blk.new _ _ _
      have hb0 : Below w.heap.size w W0 := hW0 ▸ ((Below.refl _ _).alloc (Nat.le_refl _) _).alloc (by simp) _
      have HB := Lib.hid hb0
      have k0 : W0.cell? ⟨w.heap.size, 0, none⟩ = some (.int .i64 c0) := b0.cell 0
      have k1 : W0.cell? ⟨w.heap.size, 1, none⟩ = some (.int .i64 c1) := b0.cell 1
      have k2 : W0.cell? ⟨w.heap.size, 2, none⟩ = some (.int .i64 c2) := b0.cell 2
      have k3 : W0.cell? ⟨w.heap.size, 3, none⟩ = some (.int .i64 c3) := b0.cell 3
      have k4 : W0.cell? ⟨w.heap.size, 4, none⟩ = some (.int .i64 c4) := b0.cell 4
      have l0 : W0.cell? ⟨w.heap.size + 1, 0, none⟩ = some (.int .i64 o.code) := b1.cell 0
      have l1 : W0.cell? ⟨w.heap.size + 1, 1, none⟩ = some (.int .i64 o.acc) := b1.cell 1
      have l2 : W0.cell? ⟨w.heap.size + 1, 2, none⟩ = some (.int .i64 o.ast) := b1.cell 2
      have l3 : W0.cell? ⟨w.heap.size + 1, 3, none⟩ = some (.int .i64 o.qty) := b1.cell 3
      have l4 : W0.cell? ⟨w.heap.size + 1, 4, none⟩ = some (.int .i64 o.name) := b1.cell 4
      have l5 : W0.cell? ⟨w.heap.size + 1, 5, none⟩ = some (.int .i64 o.id) := b1.cell 5
      have l6 : W0.cell? ⟨w.heap.size + 1, 6, none⟩ = some (.slice LA o.legs.length lc) := b1.cell 6
      have l7 : W0.cell? ⟨w.heap.size + 1, 7, none⟩ = some (.slice PA o.pairs.length pc) := b1.cell 7
      clear b0 b1 hb0
      rw [hW0]
      clear hW0
      go_wp2_with (go_at_call 50; refine (place_calls _ _ _ _ _ _ _ _).mono ?_; rintro e w1 ⟨rfl, hb⟩; have l0' := InB.cell (w0 := W0) hb l0; have l3' := InB.cell (w0 := W0) hb l3; have l4' := InB.cell (w0 := W0) hb l4)
      go_ret
      exact ⟨rfl, HB.out.trans (Below.mono hb HB.out.size)⟩
    · replace h0 := Int.not_lt.1 h0
      by_cases h1 : o.name < 1
      · rw [if_pos hp]
        have hpb : ((placeN c0 c1 o.acc o.ast : Int) != 0) = false := by simpa using hp
        clear hp
        have hN : firstNZ [unlessN (decide (0 < o.qty)) 16, unlessN (withinB o.name 1 65536) 19] = 19 := (first_pass1 _ (decide_eq_true (by omega)) _).trans (first_hit1 (by decide) (withinB_lo h1) _)
        rw [hN]
        clear hN
        have q1 : ((o.code : Int) == 1) = false := by rw [hc]; rfl
        have q2 : ((o.code : Int) == 2) = false := by rw [hc]; rfl
        have q3 : ((o.code : Int) == 3) = false := by rw [hc]; rfl
        have q4 : ((o.code : Int) == 4) = true := by rw [hc]; rfl
        have q5 : ((o.code : Int) == 5) = false := by rw [hc]; rfl
        have q6 : ((o.code : Int) == 6) = false := by rw [hc]; rfl
        have q7 : ((o.code : Int) == 7) = false := by rw [hc]; rfl
        have q8 : ((o.code : Int) == 8) = false := by rw [hc]; rfl
        clear hc
        go_enter Tryd.func22, Tryd.ntmps22
        go_wp2_with (fail)
        obtain ⟨W0, hW0⟩ : ∃ W0, (w.alloc (.cells #[.int .i64 c0, .int .i64 c1, .int .i64 c2, .int .i64 c3, .int .i64 c4] 23)).alloc (.cells #[.int .i64 o.code, .int .i64 o.acc, .int .i64 o.ast, .int .i64 o.qty, .int .i64 o.name, .int .i64 o.id, .slice LA o.legs.length lc, .slice PA o.pairs.length pc] 33) = W0 := ⟨_, rfl⟩
        have b0 : Blk W0 w.heap.size 23 #[.int .i64 c0, .int .i64 c1, .int .i64 c2, .int .i64 c3, .int .i64 c4] := hW0 ▸ (Blk.new _ _ _).alloc _
        have b1 : Blk W0 (w.heap.size + 1) 33 #[.int .i64 o.code, .int .i64 o.acc, .int .i64 o.ast, .int .i64 o.qty, .int .i64 o.name, .int .i64 o.id, .slice LA o.legs.length lc, .slice PA o.pairs.length pc] := by
          rw [← hW0, show w.heap.size + 1 = (w.alloc (.cells #[.int .i64 c0, .int .i64 c1, .int .i64 c2, .int .i64 c3, .int .i64 c4] 23)).heap.size by simp]
          exact Blk.new _ _ _
        have hb0 : Below w.heap.size w W0 := hW0 ▸ ((Below.refl _ _).alloc (Nat.le_refl _) _).alloc (by simp) _
        have HB := Lib.hid hb0
        have k0 : W0.cell? ⟨w.heap.size, 0, none⟩ = some (.int .i64 c0) := b0.cell 0
        have k1 : W0.cell? ⟨w.heap.size, 1, none⟩ = some (.int .i64 c1) := b0.cell 1
        have k2 : W0.cell? ⟨w.heap.size, 2, none⟩ = some (.int .i64 c2) := b0.cell 2
        have k3 : W0.cell? ⟨w.heap.size, 3, none⟩ = some (.int .i64 c3) := b0.cell 3
        have k4 : W0.cell? ⟨w.heap.size, 4, none⟩ = some (.int .i64 c4) := b0.cell 4
        have l0 : W0.cell? ⟨w.heap.size + 1, 0, none⟩ = some (.int .i64 o.code) := b1.cell 0
        have l1 : W0.cell? ⟨w.heap.size + 1, 1, none⟩ = some (.int .i64 o.acc) := b1.cell 1
        have l2 : W0.cell? ⟨w.heap.size + 1, 2, none⟩ = some (.int .i64 o.ast) := b1.cell 2
        have l3 : W0.cell? ⟨w.heap.size + 1, 3, none⟩ = some (.int .i64 o.qty) := b1.cell 3
        have l4 : W0.cell? ⟨w.heap.size + 1, 4, none⟩ = some (.int .i64 o.name) := b1.cell 4
        have l5 : W0.cell? ⟨w.heap.size + 1, 5, none⟩ = some (.int .i64 o.id) := b1.cell 5
        have l6 : W0.cell? ⟨w.heap.size + 1, 6, none⟩ = some (.slice LA o.legs.length lc) := b1.cell 6
        have l7 : W0.cell? ⟨w.heap.size + 1, 7, none⟩ = some (.slice PA o.pairs.length pc) := b1.cell 7
        clear b0 b1 hb0
        rw [hW0]
        clear hW0
        go_wp2_with (go_at_call 50; refine (place_calls _ _ _ _ _ _ _ _).mono ?_; rintro e w1 ⟨rfl, hb⟩; have l0' := InB.cell (w0 := W0) hb l0; have l3' := InB.cell (w0 := W0) hb l3; have l4' := InB.cell (w0 := W0) hb l4)
        go_ret
        exact ⟨rfl, HB.out.trans (Below.mono hb HB.out.size)⟩
      · replace h1 := Int.not_lt.1 h1
        by_cases h2 : 65536 < o.name
        · rw [if_pos hp]
          have hpb : ((placeN c0 c1 o.acc o.ast : Int) != 0) = false := by simpa using hp
          clear hp
          have hN : firstNZ [unlessN (decide (0 < o.qty)) 16, unlessN (withinB o.name 1 65536) 19] = 19 := (first_pass1 _ (decide_eq_true (by omega)) _).trans (first_hit1 (by decide) (withinB_hi h2) _)
          rw [hN]
          clear hN
          have q1 : ((o.code : Int) == 1) = false := by rw [hc]; rfl
          have q2 : ((o.code : Int) == 2) = false := by rw [hc]; rfl
          have q3 : ((o.code : Int) == 3) = false := by rw [hc]; rfl
          have q4 : ((o.code : Int) == 4) = true := by rw [hc]; rfl
          have q5 : ((o.code : Int) == 5) = false := by rw [hc]; rfl
          have q6 : ((o.code : Int) == 6) = false := by rw [hc]; rfl
          have q7 : ((o.code : Int) == 7) = false := by rw [hc]; rfl
          have q8 : ((o.code : Int) == 8) = false := by rw [hc]; rfl
          clear hc
          go_enter Tryd.func22, Tryd.ntmps22
          go_wp2_with (fail)
          obtain ⟨W0, hW0⟩ : ∃ W0, (w.alloc (.cells #[.int .i64 c0, .int .i64 c1, .int .i64 c2, .int .i64 c3, .int .i64 c4] 23)).alloc (.cells #[.int .i64 o.code, .int .i64 o.acc, .int .i64 o.ast, .int .i64 o.qty, .int .i64 o.name, .int .i64 o.id, .slice LA o.legs.length lc, .slice PA o.pairs.length pc] 33) = W0 := ⟨_, rfl⟩
          have b0 : Blk W0 w.heap.size 23 #[.int .i64 c0, .int .i64 c1, .int .i64 c2, .int .i64 c3, .int .i64 c4] := hW0 ▸ (Blk.new _ _ _).alloc _
          have b1 : Blk W0 (w.heap.size + 1) 33 #[.int .i64 o.code, .int .i64 o.acc, .int .i64 o.ast, .int .i64 o.qty, .int .i64 o.name, .int .i64 o.id, .slice LA o.legs.length lc, .slice PA o.pairs.length pc] := by
            rw [← hW0, show w.heap.size + 1 = (w.alloc (.cells #[.int .i64 c0, .int .i64 c1, .int .i64 c2, .int .i64 c3, .int .i64 c4] 23)).heap.size by simp]
            exact Blk.new _ _ _
          have hb0 : Below w.heap.size w W0 := hW0 ▸ ((Below.refl _ _).alloc (Nat.le_refl _) _).alloc (by simp) _
          have HB := Lib.hid hb0
          have k0 : W0.cell? ⟨w.heap.size, 0, none⟩ = some (.int .i64 c0) := b0.cell 0
          have k1 : W0.cell? ⟨w.heap.size, 1, none⟩ = some (.int .i64 c1) := b0.cell 1
          have k2 : W0.cell? ⟨w.heap.size, 2, none⟩ = some (.int .i64 c2) := b0.cell 2
          have k3 : W0.cell? ⟨w.heap.size, 3, none⟩ = some (.int .i64 c3) := b0.cell 3
          have k4 : W0.cell? ⟨w.heap.size, 4, none⟩ = some (.int .i64 c4) := b0.cell 4
          have l0 : W0.cell? ⟨w.heap.size + 1, 0, none⟩ = some (.int .i64 o.code) := b1.cell 0
          have l1 : W0.cell? ⟨w.heap.size + 1, 1, none⟩ = some (.int .i64 o.acc) := b1.cell 1
          have l2 : W0.cell? ⟨w.heap.size + 1, 2, none⟩ = some (.int .i64 o.ast) := b1.cell 2
          have l3 : W0.cell? ⟨w.heap.size + 1, 3, none⟩ = some (.int .i64 o.qty) := b1.cell 3
          have l4 : W0.cell? ⟨w.heap.size + 1, 4, none⟩ = some (.int .i64 o.name) := b1.cell 4
          have l5 : W0.cell? ⟨w.heap.size + 1, 5, none⟩ = some (.int .i64 o.id) := b1.cell 5
          have l6 : W0.cell? ⟨w.heap.size + 1, 6, none⟩ = some (.slice LA o.legs.length lc) := b1.cell 6
          have l7 : W0.cell? ⟨w.heap.size + 1, 7, none⟩ = some (.slice PA o.pairs.length pc) := b1.cell 7
          clear b0 b1 hb0
          rw [hW0]
          clear hW0
          go_wp2_with (go_at_call 50; refine (place_calls _ _ _ _ _ _ _ _).mono ?_; rintro e w1 ⟨rfl, hb⟩; have l0' := InB.cell (w0 := W0) hb l0; have l3' := InB.cell (w0 := W0) hb l3; have l4' := InB.cell (w0 := W0) hb l4)
          go_ret
          exact ⟨rfl, HB.out.trans (Below.mono hb HB.out.size)⟩
        · replace h2 := Int.not_lt.1 h2
          rw [if_pos hp]
          have hpb : ((placeN c0 c1 o.acc o.ast : Int) != 0) = false := by simpa using hp
          clear hp
          have hN : firstNZ [unlessN (decide (0 < o.qty)) 16, unlessN (withinB o.name 1 65536) 19] = 0 := (first_pass1 _ (decide_eq_true (by omega)) _).trans (first_pass1 _ (withinB_in h1 h2) _)
          rw [hN]
          clear hN
          have q1 : ((o.code : Int) == 1) = false := by rw [hc]; rfl
          have q2 : ((o.code : Int) == 2) = false := by rw [hc]; rfl
          have q3 : ((o.code : Int) == 3) = false := by rw [hc]; rfl
          have q4 : ((o.code : Int) == 4) = true := by rw [hc]; rfl
          have q5 : ((o.code : Int) == 5) = false := by rw [hc]; rfl
          have q6 : ((o.code : Int) == 6) = false := by rw [hc]; rfl
          have q7 : ((o.code : Int) == 7) = false := by rw [hc]; rfl
          have q8 : ((o.code : Int) == 8) = false := by rw [hc]; rfl
          clear hc
          go_enter Tryd.func22, Tryd.ntmps22
          go_wp2_with (fail)
          obtain ⟨W0, hW0⟩ : ∃ W0, (w.alloc (.cells #[.int .i64 c0, .int .i64 c1, .int .i64 c2, .int .i64 c3, .int .i64 c4] 23)).alloc (.cells #[.int .i64 o.code, .int .i64 o.acc, .int .i64 o.ast, .int .i64 o.qty, .int .i64 o.name, .int .i64 o.id, .slice LA o.legs.length lc, .slice PA o.pairs.length pc] 33) = W0 := ⟨_, rfl⟩
          have b0 : Blk W0 w.heap.size 23 #[.int .i64 c0, .int .i64 c1, .int .i64 c2, .int .i64 c3, .int .i64 c4] := hW0 ▸ (Blk.new _ _ _).alloc _
          have b1 : Blk W0 (w.heap.size + 1) 33 #[.int .i64 o.code, .int .i64 o.acc, .int .i64 o.ast, .int .i64 o.qty, .int .i64 o.name, .int .i64 o.id, .slice LA o.legs.length lc, .slice PA o.pairs.length pc] := by
            rw [← hW0, show w.heap.size + 1 = (w.alloc (.cells #[.int .i64 c0, .int .i64 c1, .int .i64 c2, .int .i64 c3, .int .i64 c4] 23)).heap.size by simp]
            exact Blk.new _ _ _
          have hb0 : Below w.heap.size w W0 := hW0 ▸ ((Below.refl _ _).alloc (Nat.le_refl _) _).alloc (by simp) _
          have HB := Lib.hid hb0
          have k0 : W0.cell? ⟨w.heap.size, 0, none⟩ = some (.int .i64 c0) := b0.cell 0
          have k1 : W0.cell? ⟨w.heap.size, 1, none⟩ = some (.int .i64 c1) := b0.cell 1
          have k2 : W0.cell? ⟨w.heap.size, 2, none⟩ = some (.int .i64 c2) := b0.cell 2
          have k3 : W0.cell? ⟨w.heap.size, 3, none⟩ = some (.int .i64 c3) := b0.cell 3
          have k4 : W0.cell? ⟨w.heap.size, 4, none⟩ = some (.int .i64 c4) := b0.cell 4
          have l0 : W0.cell? ⟨w.heap.size + 1, 0, none⟩ = some (.int .i64 o.code) := b1.cell 0
          have l1 : W0.cell? ⟨w.heap.size + 1, 1, none⟩ = some (.int .i64 o.acc) := b1.cell 1
          have l2 : W0.cell? ⟨w.heap.size + 1, 2, none⟩ = some (.int .i64 o.ast) := b1.cell 2
          have l3 : W0.cell? ⟨w.heap.size + 1, 3, none⟩ = some (.int .i64 o.qty) := b1.cell 3
          have l4 : W0.cell? ⟨w.heap.size + 1, 4, none⟩ = some (.int .i64 o.name) := b1.cell 4
          have l5 : W0.cell? ⟨w.heap.size + 1, 5, none⟩ = some (.int .i64 o.id) := b1.cell 5
          have l6 : W0.cell? ⟨w.heap.size + 1, 6, none⟩ = some (.slice LA o.legs.length lc) := b1.cell 6
          have l7 : W0.cell? ⟨w.heap.size + 1, 7, none⟩ = some (.slice PA o.pairs.length pc) := b1.cell 7
          clear b0 b1 hb0
          rw [hW0]
          clear hW0
          go_wp2_with (go_at_call 50; refine (place_calls _ _ _ _ _ _ _ _).mono ?_; rintro e w1 ⟨rfl, hb⟩; have l0' := InB.cell (w0 := W0) hb l0; have l3' := InB.cell (w0 := W0) hb l3; have l4' := InB.cell (w0 := W0) hb l4)
          go_ret
          exact ⟨rfl, HB.out.trans (Below.mono hb HB.out.size)⟩

set_option maxRecDepth 100000 in
set_option maxHeartbeats 4000000 in
theorem rcheck5 (c0 c1 c2 c3 c4 : Int) (o : Op) (LA PA : Option Addr) (lc pc : Nat) (w : World) (hc : o.code = 5) (hr : Reads w w.heap.size 5 LA o.legs.length (legsC o.legs)) :
    Calls Tryd.prog 22 #[.agg #[.int .i64 c0, .int .i64 c1, .int .i64 c2, .int .i64 c3, .int .i64 c4], .agg #[.int .i64 o.code, .int .i64 o.acc, .int .i64 o.ast, .int .i64 o.qty, .int .i64 o.name, .int .i64 o.id, .slice LA o.legs.length lc, .slice PA o.pairs.length pc]] w fun e w' => e = .returned (.int .i64 (submitN c0 c1 o)) ∧ Below w.heap.size w w' := by
  have q1 : ((o.code : Int) == 1) = false := by rw [hc]; rfl
  have q2 : ((o.code : Int) == 2) = false := by rw [hc]; rfl
  have q3 : ((o.code : Int) == 3) = false := by rw [hc]; rfl
  have q4 : ((o.code : Int) == 4) = false := by rw [hc]; rfl
  have q5 : ((o.code : Int) == 5) = true := by rw [hc]; rfl
  have q6 : ((o.code : Int) == 6) = false := by rw [hc]; rfl
  have q7 : ((o.code : Int) == 7) = false := by rw [hc]; rfl
  have q8 : ((o.code : Int) == 8) = false := by rw [hc]; rfl
  clear hc
  go_enter Tryd.func22, Tryd.ntmps22
  go_wp2_with (fail)
  obtain ⟨W0, hW0⟩ : ∃ W0, (w.alloc (.cells #[.int .i64 c0, .int .i64 c1, .int .i64 c2, .int .i64 c3, .int .i64 c4] 23)).alloc (.cells #[.int .i64 o.code, .int .i64 o.acc, .int .i64 o.ast, .int .i64 o.qty, .int .i64 o.name, .int .i64 o.id, .slice LA o.legs.length lc, .slice PA o.pairs.length pc] 33) = W0 := ⟨_, rfl⟩
  have b0 : Blk W0 w.heap.size 23 #[.int .i64 c0, .int .i64 c1, .int .i64 c2, .int .i64 c3, .int .i64 c4] := hW0 ▸ (Blk.new _ _ _).alloc _
  have b1 : Blk W0 (w.heap.size + 1) 33 #[.int .i64 o.code, .int .i64 o.acc, .int .i64 o.ast, .int .i64 o.qty, .int .i64 o.name, .int .i64 o.id, .slice LA o.legs.length lc, .slice PA o.pairs.length pc] := by
    rw [← hW0, show w.heap.size + 1 = (w.alloc (.cells #[.int .i64 c0, .int .i64 c1, .int .i64 c2, .int .i64 c3, .int .i64 c4] 23)).heap.size by simp]
    exact Blk.new _ _ _
  have hb0 : Below w.heap.size w W0 := hW0 ▸ ((Below.refl _ _).alloc (Nat.le_refl _) _).alloc (by simp) _
  have HB := Lib.hid hb0
  have k0 : W0.cell? ⟨w.heap.size, 0, none⟩ = some (.int .i64 c0) := b0.cell 0
  have k1 : W0.cell? ⟨w.heap.size, 1, none⟩ = some (.int .i64 c1) := b0.cell 1
  have k2 : W0.cell? ⟨w.heap.size, 2, none⟩ = some (.int .i64 c2) := b0.cell 2
  have k3 : W0.cell? ⟨w.heap.size, 3, none⟩ = some (.int .i64 c3) := b0.cell 3
  have k4 : W0.cell? ⟨w.heap.size, 4, none⟩ = some (.int .i64 c4) := b0.cell 4
  have l0 : W0.cell? ⟨w.heap.size + 1, 0, none⟩ = some (.int .i64 o.code) := b1.cell 0
  have l1 : W0.cell? ⟨w.heap.size + 1, 1, none⟩ = some (.int .i64 o.acc) := b1.cell 1
  have l2 : W0.cell? ⟨w.heap.size + 1, 2, none⟩ = some (.int .i64 o.ast) := b1.cell 2
  have l3 : W0.cell? ⟨w.heap.size + 1, 3, none⟩ = some (.int .i64 o.qty) := b1.cell 3
  have l4 : W0.cell? ⟨w.heap.size + 1, 4, none⟩ = some (.int .i64 o.name) := b1.cell 4
  have l5 : W0.cell? ⟨w.heap.size + 1, 5, none⟩ = some (.int .i64 o.id) := b1.cell 5
  have l6 : W0.cell? ⟨w.heap.size + 1, 6, none⟩ = some (.slice LA o.legs.length lc) := b1.cell 6
  have l7 : W0.cell? ⟨w.heap.size + 1, 7, none⟩ = some (.slice PA o.pairs.length pc) := b1.cell 7
  have hr0 := (hr.below hb0).more hb0.size
  clear hr
  clear b0 b1 hb0
  rw [hW0]
  clear hW0
  go_wp2_with (go_at_call 51; refine (rsubmit_calls _ _ _ _ _ _ _ _ _ _ _ hr0).mono ?_; rintro e w1 ⟨rfl, hb⟩)
  go_ret
  exact ⟨rfl, HB.out.trans (Below.mono hb HB.out.size)⟩

set_option maxRecDepth 100000 in
set_option maxHeartbeats 4000000 in
theorem rcheck6 (c0 c1 c2 c3 c4 : Int) (o : Op) (LA PA : Option Addr) (lc pc : Nat) (w : World) (hc : o.code = 6) :
    Calls Tryd.prog 22 #[.agg #[.int .i64 c0, .int .i64 c1, .int .i64 c2, .int .i64 c3, .int .i64 c4], .agg #[.int .i64 o.code, .int .i64 o.acc, .int .i64 o.ast, .int .i64 o.qty, .int .i64 o.name, .int .i64 o.id, .slice LA o.legs.length lc, .slice PA o.pairs.length pc]] w fun e w' => e = .returned (.int .i64 (idN o.id)) ∧ Below w.heap.size w w' := by
  by_cases h0 : o.id < 1
  · rw [idN, withinB_lo h0]
    have q1 : ((o.code : Int) == 1) = false := by rw [hc]; rfl
    have q2 : ((o.code : Int) == 2) = false := by rw [hc]; rfl
    have q3 : ((o.code : Int) == 3) = false := by rw [hc]; rfl
    have q4 : ((o.code : Int) == 4) = false := by rw [hc]; rfl
    have q5 : ((o.code : Int) == 5) = false := by rw [hc]; rfl
    have q6 : ((o.code : Int) == 6) = true := by rw [hc]; rfl
    have q7 : ((o.code : Int) == 7) = false := by rw [hc]; rfl
    have q8 : ((o.code : Int) == 8) = false := by rw [hc]; rfl
    clear hc
    have hb := ((Below.refl w.heap.size w).alloc (Nat.le_refl _) (.cells #[.int .i64 c0, .int .i64 c1, .int .i64 c2, .int .i64 c3, .int .i64 c4] 23)).alloc (by simp) (.cells #[.int .i64 o.code, .int .i64 o.acc, .int .i64 o.ast, .int .i64 o.qty, .int .i64 o.name, .int .i64 o.id, .slice LA o.legs.length lc, .slice PA o.pairs.length pc] 33)
    have HB := Lib.hid hb
    clear hb
    go_enter Tryd.func22, Tryd.ntmps22
    go_wp2
    go_ret
    exact ⟨rfl, HB⟩
  · replace h0 := Int.not_lt.1 h0
    by_cases h1 : 1099511627776 < o.id
    · rw [idN, withinB_hi h1]
      have q1 : ((o.code : Int) == 1) = false := by rw [hc]; rfl
      have q2 : ((o.code : Int) == 2) = false := by rw [hc]; rfl
      have q3 : ((o.code : Int) == 3) = false := by rw [hc]; rfl
      have q4 : ((o.code : Int) == 4) = false := by rw [hc]; rfl
      have q5 : ((o.code : Int) == 5) = false := by rw [hc]; rfl
      have q6 : ((o.code : Int) == 6) = true := by rw [hc]; rfl
      have q7 : ((o.code : Int) == 7) = false := by rw [hc]; rfl
      have q8 : ((o.code : Int) == 8) = false := by rw [hc]; rfl
      clear hc
      have hb := ((Below.refl w.heap.size w).alloc (Nat.le_refl _) (.cells #[.int .i64 c0, .int .i64 c1, .int .i64 c2, .int .i64 c3, .int .i64 c4] 23)).alloc (by simp) (.cells #[.int .i64 o.code, .int .i64 o.acc, .int .i64 o.ast, .int .i64 o.qty, .int .i64 o.name, .int .i64 o.id, .slice LA o.legs.length lc, .slice PA o.pairs.length pc] 33)
      have HB := Lib.hid hb
      clear hb
      go_enter Tryd.func22, Tryd.ntmps22
      go_wp2
      go_ret
      exact ⟨rfl, HB⟩
    · replace h1 := Int.not_lt.1 h1
      rw [idN, withinB_in h0 h1]
      have q1 : ((o.code : Int) == 1) = false := by rw [hc]; rfl
      have q2 : ((o.code : Int) == 2) = false := by rw [hc]; rfl
      have q3 : ((o.code : Int) == 3) = false := by rw [hc]; rfl
      have q4 : ((o.code : Int) == 4) = false := by rw [hc]; rfl
      have q5 : ((o.code : Int) == 5) = false := by rw [hc]; rfl
      have q6 : ((o.code : Int) == 6) = true := by rw [hc]; rfl
      have q7 : ((o.code : Int) == 7) = false := by rw [hc]; rfl
      have q8 : ((o.code : Int) == 8) = false := by rw [hc]; rfl
      clear hc
      have hb := ((Below.refl w.heap.size w).alloc (Nat.le_refl _) (.cells #[.int .i64 c0, .int .i64 c1, .int .i64 c2, .int .i64 c3, .int .i64 c4] 23)).alloc (by simp) (.cells #[.int .i64 o.code, .int .i64 o.acc, .int .i64 o.ast, .int .i64 o.qty, .int .i64 o.name, .int .i64 o.id, .slice LA o.legs.length lc, .slice PA o.pairs.length pc] 33)
      have HB := Lib.hid hb
      clear hb
      go_enter Tryd.func22, Tryd.ntmps22
      go_wp2
      go_ret
      exact ⟨rfl, HB⟩

set_option maxRecDepth 100000 in
set_option maxHeartbeats 4000000 in
theorem rcheck7 (c0 c1 c2 c3 c4 : Int) (o : Op) (LA PA : Option Addr) (lc pc : Nat) (w : World) (hc : o.code = 7) :
    Calls Tryd.prog 22 #[.agg #[.int .i64 c0, .int .i64 c1, .int .i64 c2, .int .i64 c3, .int .i64 c4], .agg #[.int .i64 o.code, .int .i64 o.acc, .int .i64 o.ast, .int .i64 o.qty, .int .i64 o.name, .int .i64 o.id, .slice LA o.legs.length lc, .slice PA o.pairs.length pc]] w fun e w' => e = .returned (.int .i64 (idN o.id)) ∧ Below w.heap.size w w' := by
  by_cases h0 : o.id < 1
  · rw [idN, withinB_lo h0]
    have q1 : ((o.code : Int) == 1) = false := by rw [hc]; rfl
    have q2 : ((o.code : Int) == 2) = false := by rw [hc]; rfl
    have q3 : ((o.code : Int) == 3) = false := by rw [hc]; rfl
    have q4 : ((o.code : Int) == 4) = false := by rw [hc]; rfl
    have q5 : ((o.code : Int) == 5) = false := by rw [hc]; rfl
    have q6 : ((o.code : Int) == 6) = false := by rw [hc]; rfl
    have q7 : ((o.code : Int) == 7) = true := by rw [hc]; rfl
    have q8 : ((o.code : Int) == 8) = false := by rw [hc]; rfl
    clear hc
    have hb := ((Below.refl w.heap.size w).alloc (Nat.le_refl _) (.cells #[.int .i64 c0, .int .i64 c1, .int .i64 c2, .int .i64 c3, .int .i64 c4] 23)).alloc (by simp) (.cells #[.int .i64 o.code, .int .i64 o.acc, .int .i64 o.ast, .int .i64 o.qty, .int .i64 o.name, .int .i64 o.id, .slice LA o.legs.length lc, .slice PA o.pairs.length pc] 33)
    have HB := Lib.hid hb
    clear hb
    go_enter Tryd.func22, Tryd.ntmps22
    go_wp2
    go_ret
    exact ⟨rfl, HB⟩
  · replace h0 := Int.not_lt.1 h0
    by_cases h1 : 1099511627776 < o.id
    · rw [idN, withinB_hi h1]
      have q1 : ((o.code : Int) == 1) = false := by rw [hc]; rfl
      have q2 : ((o.code : Int) == 2) = false := by rw [hc]; rfl
      have q3 : ((o.code : Int) == 3) = false := by rw [hc]; rfl
      have q4 : ((o.code : Int) == 4) = false := by rw [hc]; rfl
      have q5 : ((o.code : Int) == 5) = false := by rw [hc]; rfl
      have q6 : ((o.code : Int) == 6) = false := by rw [hc]; rfl
      have q7 : ((o.code : Int) == 7) = true := by rw [hc]; rfl
      have q8 : ((o.code : Int) == 8) = false := by rw [hc]; rfl
      clear hc
      have hb := ((Below.refl w.heap.size w).alloc (Nat.le_refl _) (.cells #[.int .i64 c0, .int .i64 c1, .int .i64 c2, .int .i64 c3, .int .i64 c4] 23)).alloc (by simp) (.cells #[.int .i64 o.code, .int .i64 o.acc, .int .i64 o.ast, .int .i64 o.qty, .int .i64 o.name, .int .i64 o.id, .slice LA o.legs.length lc, .slice PA o.pairs.length pc] 33)
      have HB := Lib.hid hb
      clear hb
      go_enter Tryd.func22, Tryd.ntmps22
      go_wp2
      go_ret
      exact ⟨rfl, HB⟩
    · replace h1 := Int.not_lt.1 h1
      rw [idN, withinB_in h0 h1]
      have q1 : ((o.code : Int) == 1) = false := by rw [hc]; rfl
      have q2 : ((o.code : Int) == 2) = false := by rw [hc]; rfl
      have q3 : ((o.code : Int) == 3) = false := by rw [hc]; rfl
      have q4 : ((o.code : Int) == 4) = false := by rw [hc]; rfl
      have q5 : ((o.code : Int) == 5) = false := by rw [hc]; rfl
      have q6 : ((o.code : Int) == 6) = false := by rw [hc]; rfl
      have q7 : ((o.code : Int) == 7) = true := by rw [hc]; rfl
      have q8 : ((o.code : Int) == 8) = false := by rw [hc]; rfl
      clear hc
      have hb := ((Below.refl w.heap.size w).alloc (Nat.le_refl _) (.cells #[.int .i64 c0, .int .i64 c1, .int .i64 c2, .int .i64 c3, .int .i64 c4] 23)).alloc (by simp) (.cells #[.int .i64 o.code, .int .i64 o.acc, .int .i64 o.ast, .int .i64 o.qty, .int .i64 o.name, .int .i64 o.id, .slice LA o.legs.length lc, .slice PA o.pairs.length pc] 33)
      have HB := Lib.hid hb
      clear hb
      go_enter Tryd.func22, Tryd.ntmps22
      go_wp2
      go_ret
      exact ⟨rfl, HB⟩

set_option maxRecDepth 100000 in
set_option maxHeartbeats 4000000 in
theorem rcheck_other (c0 c1 c2 c3 c4 : Int) (o : Op) (LA PA : Option Addr) (lc pc : Nat) (w : World) (h1 : o.code ≠ 1) (h2 : o.code ≠ 2) (h3 : o.code ≠ 3) (h4 : o.code ≠ 4) (h5 : o.code ≠ 5) (h6 : o.code ≠ 6) (h7 : o.code ≠ 7) (h8 : o.code ≠ 8) :
    Calls Tryd.prog 22 #[.agg #[.int .i64 c0, .int .i64 c1, .int .i64 c2, .int .i64 c3, .int .i64 c4], .agg #[.int .i64 o.code, .int .i64 o.acc, .int .i64 o.ast, .int .i64 o.qty, .int .i64 o.name, .int .i64 o.id, .slice LA o.legs.length lc, .slice PA o.pairs.length pc]] w fun e w' => e = .returned (.int .i64 (13)) ∧ Below w.heap.size w w' := by
  have q1 : ((o.code : Int) == 1) = false := by simpa using h1
  have q2 : ((o.code : Int) == 2) = false := by simpa using h2
  have q3 : ((o.code : Int) == 3) = false := by simpa using h3
  have q4 : ((o.code : Int) == 4) = false := by simpa using h4
  have q5 : ((o.code : Int) == 5) = false := by simpa using h5
  have q6 : ((o.code : Int) == 6) = false := by simpa using h6
  have q7 : ((o.code : Int) == 7) = false := by simpa using h7
  have q8 : ((o.code : Int) == 8) = false := by simpa using h8
  clear h1 h2 h3 h4 h5 h6 h7 h8
  have hb := ((Below.refl w.heap.size w).alloc (Nat.le_refl _) (.cells #[.int .i64 c0, .int .i64 c1, .int .i64 c2, .int .i64 c3, .int .i64 c4] 23)).alloc (by simp) (.cells #[.int .i64 o.code, .int .i64 o.acc, .int .i64 o.ast, .int .i64 o.qty, .int .i64 o.name, .int .i64 o.id, .slice LA o.legs.length lc, .slice PA o.pairs.length pc] 33)
  have HB := Lib.hid hb
  clear hb
  go_enter Tryd.func22, Tryd.ntmps22
  go_wp2
  go_ret
  exact ⟨rfl, HB⟩

set_option maxRecDepth 100000 in
set_option maxHeartbeats 4000000 in
theorem rcheck8_many (c0 c1 c2 c3 c4 : Int) (o : Op) (LA PA : Option Addr) (lc pc : Nat) (w : World) (hc : o.code = 8) (hn : 64 < o.pairs.length) :
    Calls Tryd.prog 22 #[.agg #[.int .i64 c0, .int .i64 c1, .int .i64 c2, .int .i64 c3, .int .i64 c4], .agg #[.int .i64 o.code, .int .i64 o.acc, .int .i64 o.ast, .int .i64 o.qty, .int .i64 o.name, .int .i64 o.id, .slice LA o.legs.length lc, .slice PA o.pairs.length pc]] w fun e w' => e = .returned (.int .i64 (5)) ∧ Below w.heap.size w w' := by
  have hm : decide ((64 : Int) < (o.pairs.length : Int)) = true := by simp; omega
  have q1 : ((o.code : Int) == 1) = false := by rw [hc]; rfl
  have q2 : ((o.code : Int) == 2) = false := by rw [hc]; rfl
  have q3 : ((o.code : Int) == 3) = false := by rw [hc]; rfl
  have q4 : ((o.code : Int) == 4) = false := by rw [hc]; rfl
  have q5 : ((o.code : Int) == 5) = false := by rw [hc]; rfl
  have q6 : ((o.code : Int) == 6) = false := by rw [hc]; rfl
  have q7 : ((o.code : Int) == 7) = false := by rw [hc]; rfl
  have q8 : ((o.code : Int) == 8) = true := by rw [hc]; rfl
  clear hc
  have hb := ((Below.refl w.heap.size w).alloc (Nat.le_refl _) (.cells #[.int .i64 c0, .int .i64 c1, .int .i64 c2, .int .i64 c3, .int .i64 c4] 23)).alloc (by simp) (.cells #[.int .i64 o.code, .int .i64 o.acc, .int .i64 o.ast, .int .i64 o.qty, .int .i64 o.name, .int .i64 o.id, .slice LA o.legs.length lc, .slice PA o.pairs.length pc] 33)
  have HB := Lib.hid hb
  clear hb
  go_enter Tryd.func22, Tryd.ntmps22
  go_wp2
  go_ret
  exact ⟨rfl, HB⟩

set_option maxRecDepth 100000 in
set_option maxHeartbeats 4000000 in
theorem rcheck8 (c0 c1 c2 c3 c4 : Int) (o : Op) (LA PA : Option Addr) (lc pc : Nat) (w : World) (hc : o.code = 8) (hn : o.pairs.length ≤ 64) (hr : Reads w w.heap.size 2 PA o.pairs.length (keysC o.pairs)) :
    Calls Tryd.prog 22 #[.agg #[.int .i64 c0, .int .i64 c1, .int .i64 c2, .int .i64 c3, .int .i64 c4], .agg #[.int .i64 o.code, .int .i64 o.acc, .int .i64 o.ast, .int .i64 o.qty, .int .i64 o.name, .int .i64 o.id, .slice LA o.legs.length lc, .slice PA o.pairs.length pc]] w fun e w' => e = .returned (.int .i64 (allN (Key.N c0 c1) o.pairs)) ∧ Below w.heap.size w w' := by
  have hm : decide ((64 : Int) < (o.pairs.length : Int)) = false := by simp; omega
  have q1 : ((o.code : Int) == 1) = false := by rw [hc]; rfl
  have q2 : ((o.code : Int) == 2) = false := by rw [hc]; rfl
  have q3 : ((o.code : Int) == 3) = false := by rw [hc]; rfl
  have q4 : ((o.code : Int) == 4) = false := by rw [hc]; rfl
  have q5 : ((o.code : Int) == 5) = false := by rw [hc]; rfl
  have q6 : ((o.code : Int) == 6) = false := by rw [hc]; rfl
  have q7 : ((o.code : Int) == 7) = false := by rw [hc]; rfl
  have q8 : ((o.code : Int) == 8) = true := by rw [hc]; rfl
  clear hc
  go_enter Tryd.func22, Tryd.ntmps22
  go_wp2_with (fail)
  obtain ⟨W0, hW0⟩ : ∃ W0, (w.alloc (.cells #[.int .i64 c0, .int .i64 c1, .int .i64 c2, .int .i64 c3, .int .i64 c4] 23)).alloc (.cells #[.int .i64 o.code, .int .i64 o.acc, .int .i64 o.ast, .int .i64 o.qty, .int .i64 o.name, .int .i64 o.id, .slice LA o.legs.length lc, .slice PA o.pairs.length pc] 33) = W0 := ⟨_, rfl⟩
  have b0 : Blk W0 w.heap.size 23 #[.int .i64 c0, .int .i64 c1, .int .i64 c2, .int .i64 c3, .int .i64 c4] := hW0 ▸ (Blk.new _ _ _).alloc _
  have b1 : Blk W0 (w.heap.size + 1) 33 #[.int .i64 o.code, .int .i64 o.acc, .int .i64 o.ast, .int .i64 o.qty, .int .i64 o.name, .int .i64 o.id, .slice LA o.legs.length lc, .slice PA o.pairs.length pc] := by
    rw [← hW0, show w.heap.size + 1 = (w.alloc (.cells #[.int .i64 c0, .int .i64 c1, .int .i64 c2, .int .i64 c3, .int .i64 c4] 23)).heap.size by simp]
    exact Blk.new _ _ _
  have hb0 : Below w.heap.size w W0 := hW0 ▸ ((Below.refl _ _).alloc (Nat.le_refl _) _).alloc (by simp) _
  have HB := Lib.hid hb0
  have k0 : W0.cell? ⟨w.heap.size, 0, none⟩ = some (.int .i64 c0) := b0.cell 0
  have k1 : W0.cell? ⟨w.heap.size, 1, none⟩ = some (.int .i64 c1) := b0.cell 1
  have k2 : W0.cell? ⟨w.heap.size, 2, none⟩ = some (.int .i64 c2) := b0.cell 2
  have k3 : W0.cell? ⟨w.heap.size, 3, none⟩ = some (.int .i64 c3) := b0.cell 3
  have k4 : W0.cell? ⟨w.heap.size, 4, none⟩ = some (.int .i64 c4) := b0.cell 4
  have l0 : W0.cell? ⟨w.heap.size + 1, 0, none⟩ = some (.int .i64 o.code) := b1.cell 0
  have l1 : W0.cell? ⟨w.heap.size + 1, 1, none⟩ = some (.int .i64 o.acc) := b1.cell 1
  have l2 : W0.cell? ⟨w.heap.size + 1, 2, none⟩ = some (.int .i64 o.ast) := b1.cell 2
  have l3 : W0.cell? ⟨w.heap.size + 1, 3, none⟩ = some (.int .i64 o.qty) := b1.cell 3
  have l4 : W0.cell? ⟨w.heap.size + 1, 4, none⟩ = some (.int .i64 o.name) := b1.cell 4
  have l5 : W0.cell? ⟨w.heap.size + 1, 5, none⟩ = some (.int .i64 o.id) := b1.cell 5
  have l6 : W0.cell? ⟨w.heap.size + 1, 6, none⟩ = some (.slice LA o.legs.length lc) := b1.cell 6
  have l7 : W0.cell? ⟨w.heap.size + 1, 7, none⟩ = some (.slice PA o.pairs.length pc) := b1.cell 7
  have hr0 := hr.below hb0
  clear hr
  clear b0 b1 hb0
  rw [hW0]
  clear hW0
  go_wp2_with (fail)
  go_loopw [7] (fun i wr => ∃ k : Nat, k ≤ o.pairs.length ∧ i = .int .i64 k ∧ allN (Key.N c0 c1) (o.pairs.drop k) = allN (Key.N c0 c1) o.pairs ∧ InB W0 wr) (fun i _ => o.pairs.length - (intOf i).toNat)
  case atStart => exact ⟨0, Nat.zero_le _, rfl, rfl, Below.refl _ _⟩
  case round =>
    obtain ⟨k, hk, rfl, hf, hin⟩ := hrel
    have HF := Lib.hid hf
    clear hf
    have k0' := hin.cell k0
    have k1' := hin.cell k1
    have k2' := hin.cell k2
    have k3' := hin.cell k3
    have k4' := hin.cell k4
    have l7' := hin.cell l7
    clear k0 k1 k2 k3 k4 l0 l1 l2 l3 l4 l5 l6 l7
    by_cases hlt : k < o.pairs.length
    · obtain ⟨ad, rfl, hadb, e0, e1⟩ := keys_at (hr0.below (show Below w.heap.size W0 wr from hin.mono HB.out.size)) hlt
      have hd := allN_drop (Key.N c0 c1) o.pairs k hlt
      have HD := Lib.hid hd
      clear hd hr0
      generalize hx : o.pairs[k] = x at e0 e1 HD
      have HX := Lib.hid hx
      clear hx
      go_wp2_with (fail)
      refine wp_region_class (InB wr) (by kernel_rfl) (by kernel_rfl) (InB.start _) ?_
      refine BigFrame.wpQuiet_want (by rfl) (fun K hK => ?_)
      refine quiet_value (.agg #[.int .i64 c0, .int .i64 c1, .int .i64 c2, .int .i64 c3, .int .i64 c4]) (fun W hW => ?_) (hK _ ?_)
      · clear hK
        have q0 := hW.cell k0'
        have q1 := hW.cell k1'
        have q2 := hW.cell k2'
        have q3 := hW.cell k3'
        have q4 := hW.cell k4'
        clear hW
        go_simp
      clear hK K
      simp only [Act.put, List.setIfInBounds_toArray, List.set_cons_zero, List.set_cons_succ]
      refine BigFrame.wpQuiet_want (by rfl) (fun K hK => ?_)
      refine quiet_value (.pointer (some ⟨w.heap.size + 1, 7, none⟩)) (fun W hW => ?_) (hK _ ?_)
      · clear hK
        clear hW
        go_simp
      clear hK K
      simp only [Act.put, List.setIfInBounds_toArray, List.set_cons_zero, List.set_cons_succ]
      refine BigFrame.wpQuiet_want (by rfl) (fun K hK => ?_)
      refine quiet_value (.slice (some ad) o.pairs.length pc) (fun W hW => ?_) (hK _ ?_)
      · clear hK
        have q0 := hW.cell l7'
        clear hW
        go_simp
      clear hK K
      simp only [Act.put, List.setIfInBounds_toArray, List.set_cons_zero, List.set_cons_succ]
      refine BigFrame.wpQuiet_want (by rfl) (fun K hK => ?_)
      refine quiet_value (.int .i64 k) (fun W hW => ?_) (hK _ ?_)
      · clear hK
        clear hW
        go_simp
      clear hK K
      simp only [Act.put, List.setIfInBounds_toArray, List.set_cons_zero, List.set_cons_succ]
      refine BigFrame.wpQuiet_want (by rfl) (fun K hK => ?_)
      refine quiet_value (.pointer (some (ad.add (k * 2)))) (fun W hW => ?_) (hK _ ?_)
      · clear hK
        clear hW
        go_simp
      clear hK K
      simp only [Act.put, List.setIfInBounds_toArray, List.set_cons_zero, List.set_cons_succ]
      refine BigFrame.wpQuiet_want (by rfl) (fun K hK => ?_)
      refine quiet_value (.pointer (some (ad.add (k * 2)))) (fun W hW => ?_) (hK _ ?_)
      · clear hK
        clear hW
        go_simp
      clear hK K
      simp only [Act.put, List.setIfInBounds_toArray, List.set_cons_zero, List.set_cons_succ]
      refine BigFrame.wpQuiet_want (by rfl) (fun K hK => ?_)
      refine quiet_value (.int .i64 x.acc) (fun W hW => ?_) (hK _ ?_)
      · clear hK
        have q0 := hW.cell e0
        clear hW
        go_simp
      clear hK K
      simp only [Act.put, List.setIfInBounds_toArray, List.set_cons_zero, List.set_cons_succ]
      refine BigFrame.wpQuiet_want (by rfl) (fun K hK => ?_)
      refine quiet_value (.pointer (some ⟨w.heap.size + 1, 7, none⟩)) (fun W hW => ?_) (hK _ ?_)
      · clear hK
        clear hW
        go_simp
      clear hK K
      simp only [Act.put, List.setIfInBounds_toArray, List.set_cons_zero, List.set_cons_succ]
      refine BigFrame.wpQuiet_want (by rfl) (fun K hK => ?_)
      refine quiet_value (.slice (some ad) o.pairs.length pc) (fun W hW => ?_) (hK _ ?_)
      · clear hK
        have q0 := hW.cell l7'
        clear hW
        go_simp
      clear hK K
      simp only [Act.put, List.setIfInBounds_toArray, List.set_cons_zero, List.set_cons_succ]
      refine BigFrame.wpQuiet_want (by rfl) (fun K hK => ?_)
      refine quiet_value (.int .i64 k) (fun W hW => ?_) (hK _ ?_)
      · clear hK
        clear hW
        go_simp
      clear hK K
      simp only [Act.put, List.setIfInBounds_toArray, List.set_cons_zero, List.set_cons_succ]
      refine BigFrame.wpQuiet_want (by rfl) (fun K hK => ?_)
      refine quiet_value (.pointer (some (ad.add (k * 2)))) (fun W hW => ?_) (hK _ ?_)
      · clear hK
        clear hW
        go_simp
      clear hK K
      simp only [Act.put, List.setIfInBounds_toArray, List.set_cons_zero, List.set_cons_succ]
      refine BigFrame.wpQuiet_want (by rfl) (fun K hK => ?_)
      refine quiet_value (.pointer (some ⟨(ad.add (k * 2)).block, (ad.add (k * 2)).off + 1, none⟩)) (fun W hW => ?_) (hK _ ?_)
      · clear hK
        clear hW
        go_simp
      clear hK K
      simp only [Act.put, List.setIfInBounds_toArray, List.set_cons_zero, List.set_cons_succ]
      refine BigFrame.wpQuiet_want (by rfl) (fun K hK => ?_)
      refine quiet_value (.int .i64 x.ast) (fun W hW => ?_) (hK _ ?_)
      · clear hK
        have q0 := hW.cell e1
        clear hW
        go_simp
      clear hK K
      simp only [Act.put, List.setIfInBounds_toArray, List.set_cons_zero, List.set_cons_succ]
      refine BigFrame.wpQuiet_want (by rfl) (fun K hK => ?_)
      refine quiet_call 50 #[.agg #[.int .i64 c0, .int .i64 c1, .int .i64 c2, .int .i64 c3, .int .i64 c4], .int .i64 x.acc, .int .i64 x.ast] (.int .i64 (placeN c0 c1 x.acc x.ast)) (fun W => ?_) (fun W hW => ?_) (hK _ ?_)
      · clear hK
        go_simp
      · refine (place_calls c0 c1 c2 c3 c4 x.acc x.ast W).mono ?_
        rintro e w' ⟨rfl, hb⟩
        exact ⟨rfl, hW.trans hb⟩
      clear hK K
      simp only [Act.put, List.setIfInBounds_toArray, List.set_cons_zero, List.set_cons_succ]
      refine BigFrame.wpQuiet_want (by rfl) (fun K hK => ?_)
      refine quiet_value (.int .i64 (placeN c0 c1 x.acc x.ast)) (fun W hW => ?_) (hK _ ?_)
      · clear hK
        clear hW
        go_simp
      clear hK K
      simp only [Act.put, List.setIfInBounds_toArray, List.set_cons_zero, List.set_cons_succ]
      refine wpQuiet_nil ?_
      intro W1 hiW1
      rw [show placeN c0 c1 x.acc x.ast = x.N c0 c1 from rfl]
      clear e0 e1 k0' k1' k2' k3' k4' l7'
      by_cases hz : x.N c0 c1 = 0
      · have hzb : ((x.N c0 c1 : Int) != 0) = false := by simpa using hz
        have HZ := Lib.hid hz
        clear hz
        go_wp2
        go_roundw
        case rel => exact ⟨k + 1, by omega, by go_num, by rw [← HF.out, HD.out, HZ.out]; rfl, hin.trans hiW1⟩
        case measure => simp [intOf]; omega
      · have hzb : ((x.N c0 c1 : Int) != 0) = true := by simpa using hz
        have HZ := Lib.hid hz
        clear hz
        go_wp2
        go_ret
        exact ⟨by rw [← HF.out, HD.out, if_neg HZ.out]; rfl, HB.out.trans ((hin.trans hiW1).mono HB.out.size)⟩
    · obtain rfl : k = o.pairs.length := by omega
      go_wp2
      go_ret
      exact ⟨by rw [← HF.out, List.drop_length]; rfl, HB.out.trans (hin.mono HB.out.size)⟩

theorem rcheck_calls (c0 c1 c2 c3 c4 : Int) (o : Op) (LA PA : Option Addr) (lc pc : Nat) (w : World) (hrL : Reads w w.heap.size 5 LA o.legs.length (legsC o.legs)) (hrP : Reads w w.heap.size 2 PA o.pairs.length (keysC o.pairs)) :
    Calls Tryd.prog 22 #[.agg #[.int .i64 c0, .int .i64 c1, .int .i64 c2, .int .i64 c3, .int .i64 c4], .agg #[.int .i64 o.code, .int .i64 o.acc, .int .i64 o.ast, .int .i64 o.qty, .int .i64 o.name, .int .i64 o.id, .slice LA o.legs.length lc, .slice PA o.pairs.length pc]] w fun e w' => e = .returned (.int .i64 (checkN c0 c1 o)) ∧ Below w.heap.size w w' := by
  by_cases h1 : o.code = 1
  · rw [checkN, if_pos (.inl h1)]; exact rcheck1 _ _ _ _ _ _ _ _ _ _ _ h1
  by_cases h2 : o.code = 2
  · rw [checkN, if_pos (.inr h2)]; exact rcheck2 _ _ _ _ _ _ _ _ _ _ _ h2
  rw [checkN, if_neg (by omega)]
  by_cases h3 : o.code = 3
  · rw [if_pos (.inl h3)]; exact rcheck3 _ _ _ _ _ _ _ _ _ _ _ h3
  by_cases h4 : o.code = 4
  · rw [if_pos (.inr h4)]; exact rcheck4 _ _ _ _ _ _ _ _ _ _ _ h4
  rw [if_neg (by omega)]
  by_cases h5 : o.code = 5
  · rw [if_pos h5]; exact rcheck5 _ _ _ _ _ _ _ _ _ _ _ h5 hrL
  rw [if_neg h5]
  by_cases h6 : o.code = 6
  · rw [if_pos (.inl h6)]; exact rcheck6 _ _ _ _ _ _ _ _ _ _ _ h6
  by_cases h7 : o.code = 7
  · rw [if_pos (.inr h7)]; exact rcheck7 _ _ _ _ _ _ _ _ _ _ _ h7
  rw [if_neg (by omega)]
  by_cases h8 : o.code = 8
  · rw [if_pos h8]
    by_cases hn : o.pairs.length ≤ 64
    · rw [if_pos hn]; exact rcheck8 _ _ _ _ _ _ _ _ _ _ _ h8 hn hrP
    · rw [if_neg hn]; exact rcheck8_many _ _ _ _ _ _ _ _ _ _ _ h8 (by omega)
  · rw [if_neg h8]; exact rcheck_other _ _ _ _ _ _ _ _ _ _ _ h1 h2 h3 h4 h5 h6 h7 h8
end Go.Proofs.YtmdkcggmnejkoaaDoor
