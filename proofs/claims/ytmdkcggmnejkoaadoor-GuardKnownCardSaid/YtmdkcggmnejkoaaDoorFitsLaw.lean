/- custodyref16.Fits by a contract; the walk of the law GuardFits. -/
import Derived.Test.YtmdkcggmnejkoaaDoorGuard
import Derived.Test.YtmdkcggmnejkoaaDoorClass
namespace Go.Proofs.YtmdkcggmnejkoaaDoor
set_option linter.unusedSimpArgs false
set_option linter.unusedVariables false
open Go.RowKit

set_option maxRecDepth 100000 in
set_option maxHeartbeats 2000000 in
theorem rfits_calls (c0 c1 c2 c3 c4 : Int) (w : World) : Calls Tryd.prog 13 #[.agg #[.int .i64 c0, .int .i64 c1, .int .i64 c2, .int .i64 c3, .int .i64 c4]] w
    fun e w' => e = .returned (.int .i64 (fitsN c0 c1 c2 c3 c4)) ∧ Below w.heap.size w w' := by
  have hb := (Below.refl w.heap.size w).alloc (Nat.le_refl _) (.cells #[.int .i64 c0, .int .i64 c1, .int .i64 c2, .int .i64 c3, .int .i64 c4] 23)
  have HB := Lib.hid hb
  clear hb
  by_cases h0 : c0 < 1
  · have e : fitsN c0 c1 c2 c3 c4 = 1 := by
      have : fitsB c0 c1 c2 c3 c4 = false := by simp [fitsB, withinB]; omega
      rw [fitsN, this]; rfl
    rw [e]
    clear e
    go_enter Tryd.func13, Tryd.ntmps13
    go_wp2
    go_ret
    exact ⟨rfl, HB⟩
  · replace h0 := Int.not_lt.1 h0
    by_cases h1 : 65536 < c0
    · have e : fitsN c0 c1 c2 c3 c4 = 1 := by
        have : fitsB c0 c1 c2 c3 c4 = false := by simp [fitsB, withinB]; omega
        rw [fitsN, this]; rfl
      rw [e]
      clear e
      go_enter Tryd.func13, Tryd.ntmps13
      go_wp2
      go_ret
      exact ⟨rfl, HB⟩
    · replace h1 := Int.not_lt.1 h1
      by_cases h2 : c1 < 1
      · have e : fitsN c0 c1 c2 c3 c4 = 1 := by
          have : fitsB c0 c1 c2 c3 c4 = false := by simp [fitsB, withinB]; omega
          rw [fitsN, this]; rfl
        rw [e]
        clear e
        go_enter Tryd.func13, Tryd.ntmps13
        go_wp2
        go_ret
        exact ⟨rfl, HB⟩
      · replace h2 := Int.not_lt.1 h2
        by_cases h3 : 65536 < c1
        · have e : fitsN c0 c1 c2 c3 c4 = 1 := by
            have : fitsB c0 c1 c2 c3 c4 = false := by simp [fitsB, withinB]; omega
            rw [fitsN, this]; rfl
          rw [e]
          clear e
          go_enter Tryd.func13, Tryd.ntmps13
          go_wp2
          go_ret
          exact ⟨rfl, HB⟩
        · replace h3 := Int.not_lt.1 h3
          by_cases h4 : c2 < 0
          · have e : fitsN c0 c1 c2 c3 c4 = 1 := by
              have : fitsB c0 c1 c2 c3 c4 = false := by simp [fitsB, withinB]; omega
              rw [fitsN, this]; rfl
            rw [e]
            clear e
            go_enter Tryd.func13, Tryd.ntmps13
            go_wp2
            go_ret
            exact ⟨rfl, HB⟩
          · replace h4 := Int.not_lt.1 h4
            by_cases h5 : 256 < c2
            · have e : fitsN c0 c1 c2 c3 c4 = 1 := by
                have : fitsB c0 c1 c2 c3 c4 = false := by simp [fitsB, withinB]; omega
                rw [fitsN, this]; rfl
              rw [e]
              clear e
              go_enter Tryd.func13, Tryd.ntmps13
              go_wp2
              go_ret
              exact ⟨rfl, HB⟩
            · replace h5 := Int.not_lt.1 h5
              by_cases h6 : c3 < 1
              · have e : fitsN c0 c1 c2 c3 c4 = 1 := by
                  have : fitsB c0 c1 c2 c3 c4 = false := by simp [fitsB, withinB]; omega
                  rw [fitsN, this]; rfl
                rw [e]
                clear e
                go_enter Tryd.func13, Tryd.ntmps13
                go_wp2
                go_ret
                exact ⟨rfl, HB⟩
              · replace h6 := Int.not_lt.1 h6
                by_cases h7 : 64 < c3
                · have e : fitsN c0 c1 c2 c3 c4 = 1 := by
                    have : fitsB c0 c1 c2 c3 c4 = false := by simp [fitsB, withinB]; omega
                    rw [fitsN, this]; rfl
                  rw [e]
                  clear e
                  go_enter Tryd.func13, Tryd.ntmps13
                  go_wp2
                  go_ret
                  exact ⟨rfl, HB⟩
                · replace h7 := Int.not_lt.1 h7
                  by_cases h8 : c4 < 0
                  · have e : fitsN c0 c1 c2 c3 c4 = 1 := by
                      have : fitsB c0 c1 c2 c3 c4 = false := by simp [fitsB, withinB]; omega
                      rw [fitsN, this]; rfl
                    rw [e]
                    clear e
                    go_enter Tryd.func13, Tryd.ntmps13
                    go_wp2
                    go_ret
                    exact ⟨rfl, HB⟩
                  · replace h8 := Int.not_lt.1 h8
                    by_cases h9 : 8 < c4
                    · have e : fitsN c0 c1 c2 c3 c4 = 1 := by
                        have : fitsB c0 c1 c2 c3 c4 = false := by simp [fitsB, withinB]; omega
                        rw [fitsN, this]; rfl
                      rw [e]
                      clear e
                      go_enter Tryd.func13, Tryd.ntmps13
                      go_wp2
                      go_ret
                      exact ⟨rfl, HB⟩
                    · replace h9 := Int.not_lt.1 h9
                      have e : fitsN c0 c1 c2 c3 c4 = 0 := by
                        have : fitsB c0 c1 c2 c3 c4 = true := by simp [fitsB, withinB]; omega
                        rw [fitsN, this]; rfl
                      rw [e]
                      clear e
                      go_enter Tryd.func13, Tryd.ntmps13
                      go_wp2
                      go_ret
                      exact ⟨rfl, HB⟩

theorem InB.hg {w0 W : World} (h : InB w0 W) (hG : HG w0) : HG W := hG.below h
theorem fitsN_range (c0 c1 c2 c3 c4 : Int) : 0 ≤ fitsN c0 c1 c2 c3 c4 ∧ fitsN c0 c1 c2 c3 c4 ≤ 24 := by
  unfold fitsN unlessN; split <;> omega

set_option maxRecDepth 100000 in
set_option maxHeartbeats 2000000 in
theorem lawFits_calls (c0 c1 c2 c3 c4 : Int) (w : World) (hG : HG w) : Calls Tryd.prog 3 #[.agg #[.int .i64 c0, .int .i64 c1, .int .i64 c2, .int .i64 c3, .int .i64 c4]] w
    fun e w' => e = .returned (.bool true) ∧ Below w.heap.size w w' := by
  obtain ⟨hr0, hr1⟩ := fitsN_range c0 c1 c2 c3 c4
  go_enter Tryd.func3, Tryd.ntmps3
  go_wp2_with fail
  obtain ⟨W0, hW0⟩ : ∃ W0, w.alloc (.cells #[.int .i64 c0, .int .i64 c1, .int .i64 c2, .int .i64 c3, .int .i64 c4] 23) = W0 := ⟨_, rfl⟩
  have hc : ∀ j : Nat, ∀ v, #[Value.int .i64 c0, .int .i64 c1, .int .i64 c2, .int .i64 c3, .int .i64 c4][j]? = some v → ∀ W, InB W0 W → W.cell? ⟨w.heap.size, j, none⟩ = some v := by
    intro j v hv W hW
    subst hW0
    exact hW.cell (((Blk.new w _ _).cell j).trans hv)
  have hc0 := hc 0 (.int .i64 c0) rfl
  have hc1 := hc 1 (.int .i64 c1) rfl
  have hc2 := hc 2 (.int .i64 c2) rfl
  have hc3 := hc 3 (.int .i64 c3) rfl
  have hc4 := hc 4 (.int .i64 c4) rfl
  have hG0 : HG W0 := hW0 ▸ hG.alloc _
  have hb0 : Below w.heap.size w W0 := hW0 ▸ (Below.refl _ _).alloc (Nat.le_refl _) _
  rw [hW0]
  clear hc hW0 hG
  refine wp_region_class (InB W0) (by kernel_rfl) (by kernel_rfl) (InB.start _) ?_
  refine BigFrame.wpQuiet_want (by rfl) (fun K hK => ?_)
  refine quiet_value (.agg #[.int .i64 c0, .int .i64 c1, .int .i64 c2, .int .i64 c3, .int .i64 c4]) (fun W hW => ?_) (hK _ ?_)
  · clear hK
    have k0 := hc0 W hW
    have k1 := hc1 W hW
    have k2 := hc2 W hW
    have k3 := hc3 W hW
    have k4 := hc4 W hW
    clear hc0 hc1 hc2 hc3 hc4 hW
    go_simp
  clear hK K
  simp only [Act.put, List.setIfInBounds_toArray, List.set_cons_zero, List.set_cons_succ]
  refine BigFrame.wpQuiet_want (by rfl) (fun K hK => ?_)
  refine quiet_call 12 #[.agg #[.int .i64 c0, .int .i64 c1, .int .i64 c2, .int .i64 c3, .int .i64 c4]] (errV (fitsN c0 c1 c2 c3 c4)) (fun W => ?_) (fun W hW => ?_) (hK _ ?_)
  · clear hK
    go_simp
  · refine (fits_calls c0 c1 c2 c3 c4 W).mono ?_
    rintro e w' ⟨rfl, hb⟩
    exact ⟨rfl, hW.trans hb⟩
  clear hK K
  simp only [Act.put, List.setIfInBounds_toArray, List.set_cons_zero, List.set_cons_succ]
  refine BigFrame.wpQuiet_want (by rfl) (fun K hK => ?_)
  refine quiet_value (.agg #[.int .i64 c0, .int .i64 c1, .int .i64 c2, .int .i64 c3, .int .i64 c4]) (fun W hW => ?_) (hK _ ?_)
  · clear hK
    have k0 := hc0 W hW
    have k1 := hc1 W hW
    have k2 := hc2 W hW
    have k3 := hc3 W hW
    have k4 := hc4 W hW
    clear hc0 hc1 hc2 hc3 hc4 hW
    go_simp
  clear hK K
  simp only [Act.put, List.setIfInBounds_toArray, List.set_cons_zero, List.set_cons_succ]
  refine BigFrame.wpQuiet_want (by rfl) (fun K hK => ?_)
  refine quiet_call 13 #[.agg #[.int .i64 c0, .int .i64 c1, .int .i64 c2, .int .i64 c3, .int .i64 c4]] (.int .i64 (fitsN c0 c1 c2 c3 c4)) (fun W => ?_) (fun W hW => ?_) (hK _ ?_)
  · clear hK
    go_simp
  · refine (rfits_calls c0 c1 c2 c3 c4 W).mono ?_
    rintro e w' ⟨rfl, hb⟩
    exact ⟨rfl, hW.trans hb⟩
  clear hK K
  simp only [Act.put, List.setIfInBounds_toArray, List.set_cons_zero, List.set_cons_succ]
  refine BigFrame.wpQuiet_want (by rfl) (fun K hK => ?_)
  refine quiet_call 11 #[errV (fitsN c0 c1 c2 c3 c4), .int .i64 (fitsN c0 c1 c2 c3 c4)] (.bool (fitsN c0 c1 c2 c3 c4 == fitsN c0 c1 c2 c3 c4)) (fun W => ?_) (fun W hW => ?_) (hK _ ?_)
  · clear hK
    go_simp
  · refine (plain_errV _ _ W hr0 hr1 (hW.hg hG0)).mono ?_
    rintro e w' ⟨rfl, hb⟩
    exact ⟨rfl, hW.trans hb⟩
  clear hK K
  simp only [Act.put, List.setIfInBounds_toArray, List.set_cons_zero, List.set_cons_succ]
  refine BigFrame.wpQuiet_want (by rfl) (fun K hK => ?_)
  refine quiet_value (.bool (fitsN c0 c1 c2 c3 c4 == fitsN c0 c1 c2 c3 c4)) (fun W hW => ?_) (hK _ ?_)
  · clear hK
    go_simp
  clear hK K
  simp only [Act.put, List.setIfInBounds_toArray, List.set_cons_zero, List.set_cons_succ]
  refine wpQuiet_nil ?_
  intro W hW
  clear hc0 hc1 hc2 hc3 hc4
  rw [show (fitsN c0 c1 c2 c3 c4 == fitsN c0 c1 c2 c3 c4) = true by simp]
  go_wp2
  go_ret
  exact ⟨rfl, hb0.trans (hW.mono hb0.size)⟩
end Go.Proofs.YtmdkcggmnejkoaaDoor
