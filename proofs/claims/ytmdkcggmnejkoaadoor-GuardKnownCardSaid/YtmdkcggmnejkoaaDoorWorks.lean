/- custodylaw16.works. -/
import Derived.Test.YtmdkcggmnejkoaaDoorDecode7
import Derived.Test.YtmdkcggmnejkoaaDoorCheck
namespace Go.Proofs.YtmdkcggmnejkoaaDoor
set_option linter.unusedSimpArgs false
set_option linter.unusedVariables false
open Go.RowKit

theorem own_slice_n {w : World} {base : Nat} {e : TypeId} {size n : Nat} {v : Value} {xs : List Value} (h : w.ownsRow base e size v n xs) : ∃ A c, v = .slice A n c := by
  rcases h.2 with h0 | ⟨g, cap, cur, rfl, _⟩
  · exact ⟨none, 0, by rw [h0.1, h0.2]⟩
  · exact ⟨_, _, rfl⟩

def worksO : Op := ⟨1, 0, 1, 5, 0, 0, [], []⟩
theorem works12 : checkN 1 2 worksO = 0 := by decide
theorem works11 : checkN 1 1 worksO = 15 := by decide

set_option maxRecDepth 100000 in
set_option maxHeartbeats 2000000 in
theorem works_calls (w : World) (hG : HG w) : Calls Tryd.prog 33 #[] w fun e w' => e = .returned (.bool true) ∧ Below w.heap.size w w' := by
  have hr : Reads (w.alloc (Obj.cells #[.int .i64 1, .int .i64 0, .int .i64 1, .int .i64 5] 2)) (w.alloc (Obj.cells #[.int .i64 1, .int .i64 0, .int .i64 1, .int .i64 5] 2)).heap.size 1 (some ⟨w.heap.size, 0, none⟩) 4 (intsC [1, 0, 1, 5]) :=
    ⟨rfl, fun _ => ⟨_, rfl, by simp, fun j u hu => new_cells w _ _ j u hu⟩⟩
  go_enter Tryd.func33, Tryd.ntmps33
  go_wp2_with (fail)
  refine (decode_calls (some ⟨w.heap.size, 0, none⟩) 4 [1, 0, 1, 5] _ hr (by simp) (by simp)).mono ?_
  rintro e w1 ⟨L, P, rfl, hL, hP, hb⟩
  have hd : decodeG [1, 0, 1, 5] = (⟨1, 0, 1, 5, 0, 0, [], []⟩, 0) := rfl
  rw [hd] at hL hP
  obtain ⟨LA, lc, rfl⟩ := own_slice_n hL
  obtain ⟨PA, pc, rfl⟩ := own_slice_n hP
  rw [hd]
  have b1 : Below w.heap.size w w1 := ((Below.refl w.heap.size w).alloc (Nat.le_refl _) _).trans (hb.mono (by simp))
  clear hb hL hP hd hr
  simp only [OpM.cs, opCs, errV_zero]
  obtain ⟨ob, hob⟩ : ∃ ob, w1.heap.size = ob := ⟨_, rfl⟩
  go_wp2_with (fail)
  obtain ⟨W2, hW2⟩ : ∃ W2, w1.alloc (Obj.cells #[.int .i64 1, .int .i64 0, .int .i64 1, .int .i64 5, .int .i64 0, .int .i64 0, .slice LA 0 lc, .slice PA 0 pc] 33) = W2 := ⟨_, rfl⟩
  have b2 : Below w.heap.size w W2 := by rw [← hW2]; exact b1.alloc b1.size _
  have k2 : Blk W2 ob 33 #[.int .i64 1, .int .i64 0, .int .i64 1, .int .i64 5, .int .i64 0, .int .i64 0, .slice LA 0 lc, .slice PA 0 pc] := by rw [← hW2, ← hob]; exact Blk.new _ _ _
  rw [hW2]
  clear hW2 b1
  refine (check_calls 1 2 0 0 0 worksO LA PA lc pc W2 Reads.none_ Reads.none_).mono ?_
  rintro e w3 ⟨rfl, hb3⟩
  rw [works12]
  simp only [errV_zero]
  have b3 : Below w.heap.size w w3 := b2.trans (hb3.mono b2.size)
  have k3 := k2.below hb3 k2.lt
  have c0 : w3.cell? ⟨ob, 0, none⟩ = some (.int .i64 1) := k3.cell 0
  have c1 : w3.cell? ⟨ob, 1, none⟩ = some (.int .i64 0) := k3.cell 1
  have c2 : w3.cell? ⟨ob, 2, none⟩ = some (.int .i64 1) := k3.cell 2
  have c3 : w3.cell? ⟨ob, 3, none⟩ = some (.int .i64 5) := k3.cell 3
  have c4 : w3.cell? ⟨ob, 4, none⟩ = some (.int .i64 0) := k3.cell 4
  have c5 : w3.cell? ⟨ob, 5, none⟩ = some (.int .i64 0) := k3.cell 5
  have c6 : w3.cell? ⟨ob, 6, none⟩ = some (.slice LA 0 lc) := k3.cell 6
  have c7 : w3.cell? ⟨ob, 7, none⟩ = some (.slice PA 0 pc) := k3.cell 7
  clear k3 k2 hb3
  go_wp2_with (fail)
  refine (check_calls 1 1 0 0 0 worksO LA PA lc pc w3 Reads.none_ Reads.none_).mono ?_
  rintro e w4 ⟨rfl, hb4⟩
  rw [works11]
  have b4 : Below w.heap.size w w4 := b3.trans (hb4.mono b3.size)
  clear c0 c1 c2 c3 c4 c5 c6 c7 hb4
  go_wp2_with (fail)
  refine (plain_errV 15 15 w4 (by decide) (by decide) (hG.below b4)).mono ?_
  rintro e w5 ⟨rfl, hb5⟩
  have e15 : ((15 : Int) == 15) = true := rfl
  rw [e15]
  go_wp2
  go_ret
  exact ⟨rfl, b4.trans (hb5.mono b4.size)⟩
end Go.Proofs.YtmdkcggmnejkoaaDoor
