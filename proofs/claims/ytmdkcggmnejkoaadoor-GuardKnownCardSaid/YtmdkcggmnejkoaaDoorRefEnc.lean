/- custodyref16.Encode by contracts (printed by gen_refenc.py). -/
import Derived.Test.YtmdkcggmnejkoaaDoorEncode2
import Derived.Deep.RegionHeld3
namespace Go.Proofs.YtmdkcggmnejkoaaDoor
set_option linter.unusedSimpArgs false
set_option linter.unusedVariables false
open Go.RowKit

def RefEncTo (w : World) (l : List Int) (k : Int) (e : Ending) (w' : World) : Prop :=
  ∃ v, e = .returned (.tuple #[v, .int .i64 k]) ∧ w'.ownsRow w.heap.size 2 1 v l.length (intsC l) ∧ Below w.heap.size w w'
theorem ints_push (l m : List Int) : intsC l ++ intsC m = intsC (l ++ m) := by simp [intsC]
theorem own_first (w : World) (x : Int) (B : Nat) (hB : B ≤ w.heap.size) : (w.alloc (.cells #[.int .i64 x] 2)).ownsRow B 2 1 (.slice (some ⟨w.heap.size, 0, none⟩) 1 1) 1 (intsC [x]) :=
  ⟨by simp [intsC, Int.cs], .inr ⟨w.heap.size, 1, #[.int .i64 x], rfl, hB, Blk.new _ _ _, by simp, by simp [maxLen], by simp, by simp [intsC, Int.cs]⟩⟩

set_option maxRecDepth 100000 in
set_option maxHeartbeats 8000000 in
theorem renc_1 (a b q n i : Int) (ln pn : Nat) (LA PA : Option Addr) (lc pc : Nat) (w : World) :
    Calls Tryd.prog 14 #[.agg #[.int .i64 1, .int .i64 a, .int .i64 b, .int .i64 q, .int .i64 n, .int .i64 i, .slice LA ln lc, .slice PA pn pc]] w (RefEncTo w [1, a, b, q] 0) := by
  obtain ⟨i0, hi0, hz0, hz1, hz2⟩ := info_parts infoLongs
  obtain ⟨g, hg⟩ : ∃ g, w.heap.size = g := ⟨_, rfl⟩
  obtain ⟨W3, hW3⟩ : ∃ W, (w.alloc (.cells #[.int .i64 1, .int .i64 a, .int .i64 b, .int .i64 q, .int .i64 n, .int .i64 i, .slice LA ln lc, .slice PA pn pc] 33)).alloc (.cells #[.int .i64 1] 2) = W := ⟨_, rfl⟩
  have B3 : Below w.heap.size w W3 := hW3 ▸ ((Below.refl _ _).alloc (Nat.le_refl _) _).alloc (by simp) _
  have b1 : Blk W3 g 33 #[.int .i64 1, .int .i64 a, .int .i64 b, .int .i64 q, .int .i64 n, .int .i64 i, .slice LA ln lc, .slice PA pn pc] := by rw [← hW3, ← hg]; exact (Blk.new _ _ _).alloc _
  have ho : W3.ownsRow w.heap.size 2 1 (.slice (some ⟨g + 1, 0, none⟩) 1 1) 1 (intsC [1]) := by
    have h := own_first (w.alloc (.cells #[.int .i64 1, .int .i64 a, .int .i64 b, .int .i64 q, .int .i64 n, .int .i64 i, .slice LA ln lc, .slice PA pn pc] 33)) 1 w.heap.size (by simp)
    rw [hW3] at h
    rw [← hg]
    simpa using h
  have s3 := B3.size
  have k0 : W3.cell? ⟨g, 0, none⟩ = some (.int .i64 1) := b1.cell 0
  have k1 : W3.cell? ⟨g, 1, none⟩ = some (.int .i64 a) := b1.cell 1
  have k2 : W3.cell? ⟨g, 2, none⟩ = some (.int .i64 b) := b1.cell 2
  have k3 : W3.cell? ⟨g, 3, none⟩ = some (.int .i64 q) := b1.cell 3
  have k4 : W3.cell? ⟨g, 4, none⟩ = some (.int .i64 n) := b1.cell 4
  have k5 : W3.cell? ⟨g, 5, none⟩ = some (.int .i64 i) := b1.cell 5
  have k6 : W3.cell? ⟨g, 6, none⟩ = some (.slice LA ln lc) := b1.cell 6
  have k7 : W3.cell? ⟨g, 7, none⟩ = some (.slice PA pn pc) := b1.cell 7
  have B1 := Lib.hid b1
  have S3 := Lib.hid s3
  clear b1 s3
  go_enter Tryd.func14, Tryd.ntmps14
  go_wp2_with (first | (at_builtin; refine wpList_append_own _ rfl (.tmp 16) (.tmp 23) 34 rfl w.heap.size 2 i0 _ 1 8 Tryd.underlying34 hi0 hz0 hz1 hz2 rfl (by decide) _ (1) (intsC [1]) rfl (ho.alloc _) ⟨W3.heap.size, 0, none⟩ 3 3 [.int .i64 a, .int .i64 b, .int .i64 q] rfl rfl ?_ ?_ ?_ ?_ ?_ ?_; exact new_cells W3 2 [.int .i64 a, .int .i64 b, .int .i64 q]; (simp [Value.oneCell']); (unfold maxLen; omega); (omega); (have := S3.out; simp; omega); intro v1 w1 hown1 hg1 _))
  go_ret2
  refine ⟨v1, rfl, ?_, (B3.alloc B3.size _).grown hg1 (by have := S3.out; simp; omega) (fun b hb => own_base ho hb)⟩
  have h : intsC [1] ++ [.int .i64 a, .int .i64 b, .int .i64 q] = intsC [1, a, b, q] := rfl
  rw [← h]
  first | exact hown1 | exact hg ▸ hown1

set_option maxRecDepth 100000 in
set_option maxHeartbeats 8000000 in
theorem renc_2 (a b q n i : Int) (ln pn : Nat) (LA PA : Option Addr) (lc pc : Nat) (w : World) :
    Calls Tryd.prog 14 #[.agg #[.int .i64 2, .int .i64 a, .int .i64 b, .int .i64 q, .int .i64 n, .int .i64 i, .slice LA ln lc, .slice PA pn pc]] w (RefEncTo w [2, a, b, q] 0) := by
  obtain ⟨i0, hi0, hz0, hz1, hz2⟩ := info_parts infoLongs
  obtain ⟨g, hg⟩ : ∃ g, w.heap.size = g := ⟨_, rfl⟩
  obtain ⟨W3, hW3⟩ : ∃ W, (w.alloc (.cells #[.int .i64 2, .int .i64 a, .int .i64 b, .int .i64 q, .int .i64 n, .int .i64 i, .slice LA ln lc, .slice PA pn pc] 33)).alloc (.cells #[.int .i64 2] 2) = W := ⟨_, rfl⟩
  have B3 : Below w.heap.size w W3 := hW3 ▸ ((Below.refl _ _).alloc (Nat.le_refl _) _).alloc (by simp) _
  have b1 : Blk W3 g 33 #[.int .i64 2, .int .i64 a, .int .i64 b, .int .i64 q, .int .i64 n, .int .i64 i, .slice LA ln lc, .slice PA pn pc] := by rw [← hW3, ← hg]; exact (Blk.new _ _ _).alloc _
  have ho : W3.ownsRow w.heap.size 2 1 (.slice (some ⟨g + 1, 0, none⟩) 1 1) 1 (intsC [2]) := by
    have h := own_first (w.alloc (.cells #[.int .i64 2, .int .i64 a, .int .i64 b, .int .i64 q, .int .i64 n, .int .i64 i, .slice LA ln lc, .slice PA pn pc] 33)) 2 w.heap.size (by simp)
    rw [hW3] at h
    rw [← hg]
    simpa using h
  have s3 := B3.size
  have k0 : W3.cell? ⟨g, 0, none⟩ = some (.int .i64 2) := b1.cell 0
  have k1 : W3.cell? ⟨g, 1, none⟩ = some (.int .i64 a) := b1.cell 1
  have k2 : W3.cell? ⟨g, 2, none⟩ = some (.int .i64 b) := b1.cell 2
  have k3 : W3.cell? ⟨g, 3, none⟩ = some (.int .i64 q) := b1.cell 3
  have k4 : W3.cell? ⟨g, 4, none⟩ = some (.int .i64 n) := b1.cell 4
  have k5 : W3.cell? ⟨g, 5, none⟩ = some (.int .i64 i) := b1.cell 5
  have k6 : W3.cell? ⟨g, 6, none⟩ = some (.slice LA ln lc) := b1.cell 6
  have k7 : W3.cell? ⟨g, 7, none⟩ = some (.slice PA pn pc) := b1.cell 7
  have B1 := Lib.hid b1
  have S3 := Lib.hid s3
  clear b1 s3
  go_enter Tryd.func14, Tryd.ntmps14
  go_wp2_with (first | (at_builtin; refine wpList_append_own _ rfl (.tmp 16) (.tmp 23) 34 rfl w.heap.size 2 i0 _ 1 8 Tryd.underlying34 hi0 hz0 hz1 hz2 rfl (by decide) _ (1) (intsC [2]) rfl (ho.alloc _) ⟨W3.heap.size, 0, none⟩ 3 3 [.int .i64 a, .int .i64 b, .int .i64 q] rfl rfl ?_ ?_ ?_ ?_ ?_ ?_; exact new_cells W3 2 [.int .i64 a, .int .i64 b, .int .i64 q]; (simp [Value.oneCell']); (unfold maxLen; omega); (omega); (have := S3.out; simp; omega); intro v1 w1 hown1 hg1 _))
  go_ret2
  refine ⟨v1, rfl, ?_, (B3.alloc B3.size _).grown hg1 (by have := S3.out; simp; omega) (fun b hb => own_base ho hb)⟩
  have h : intsC [2] ++ [.int .i64 a, .int .i64 b, .int .i64 q] = intsC [2, a, b, q] := rfl
  rw [← h]
  first | exact hown1 | exact hg ▸ hown1

set_option maxRecDepth 100000 in
set_option maxHeartbeats 8000000 in
theorem renc_3 (a b q n i : Int) (ln pn : Nat) (LA PA : Option Addr) (lc pc : Nat) (w : World) :
    Calls Tryd.prog 14 #[.agg #[.int .i64 3, .int .i64 a, .int .i64 b, .int .i64 q, .int .i64 n, .int .i64 i, .slice LA ln lc, .slice PA pn pc]] w (RefEncTo w [3, a, b, q, n] 0) := by
  obtain ⟨i0, hi0, hz0, hz1, hz2⟩ := info_parts infoLongs
  obtain ⟨g, hg⟩ : ∃ g, w.heap.size = g := ⟨_, rfl⟩
  obtain ⟨W3, hW3⟩ : ∃ W, (w.alloc (.cells #[.int .i64 3, .int .i64 a, .int .i64 b, .int .i64 q, .int .i64 n, .int .i64 i, .slice LA ln lc, .slice PA pn pc] 33)).alloc (.cells #[.int .i64 3] 2) = W := ⟨_, rfl⟩
  have B3 : Below w.heap.size w W3 := hW3 ▸ ((Below.refl _ _).alloc (Nat.le_refl _) _).alloc (by simp) _
  have b1 : Blk W3 g 33 #[.int .i64 3, .int .i64 a, .int .i64 b, .int .i64 q, .int .i64 n, .int .i64 i, .slice LA ln lc, .slice PA pn pc] := by rw [← hW3, ← hg]; exact (Blk.new _ _ _).alloc _
  have ho : W3.ownsRow w.heap.size 2 1 (.slice (some ⟨g + 1, 0, none⟩) 1 1) 1 (intsC [3]) := by
    have h := own_first (w.alloc (.cells #[.int .i64 3, .int .i64 a, .int .i64 b, .int .i64 q, .int .i64 n, .int .i64 i, .slice LA ln lc, .slice PA pn pc] 33)) 3 w.heap.size (by simp)
    rw [hW3] at h
    rw [← hg]
    simpa using h
  have s3 := B3.size
  have k0 : W3.cell? ⟨g, 0, none⟩ = some (.int .i64 3) := b1.cell 0
  have k1 : W3.cell? ⟨g, 1, none⟩ = some (.int .i64 a) := b1.cell 1
  have k2 : W3.cell? ⟨g, 2, none⟩ = some (.int .i64 b) := b1.cell 2
  have k3 : W3.cell? ⟨g, 3, none⟩ = some (.int .i64 q) := b1.cell 3
  have k4 : W3.cell? ⟨g, 4, none⟩ = some (.int .i64 n) := b1.cell 4
  have k5 : W3.cell? ⟨g, 5, none⟩ = some (.int .i64 i) := b1.cell 5
  have k6 : W3.cell? ⟨g, 6, none⟩ = some (.slice LA ln lc) := b1.cell 6
  have k7 : W3.cell? ⟨g, 7, none⟩ = some (.slice PA pn pc) := b1.cell 7
  have B1 := Lib.hid b1
  have S3 := Lib.hid s3
  clear b1 s3
  go_enter Tryd.func14, Tryd.ntmps14
  go_wp2_with (first | (at_builtin; refine wpList_append_own _ rfl (.tmp 28) (.tmp 37) 34 rfl w.heap.size 2 i0 _ 1 8 Tryd.underlying34 hi0 hz0 hz1 hz2 rfl (by decide) _ (1) (intsC [3]) rfl (ho.alloc _) ⟨W3.heap.size, 0, none⟩ 4 4 [.int .i64 a, .int .i64 b, .int .i64 q, .int .i64 n] rfl rfl ?_ ?_ ?_ ?_ ?_ ?_; exact new_cells W3 2 [.int .i64 a, .int .i64 b, .int .i64 q, .int .i64 n]; (simp [Value.oneCell']); (unfold maxLen; omega); (omega); (have := S3.out; simp; omega); intro v1 w1 hown1 hg1 _))
  go_ret2
  refine ⟨v1, rfl, ?_, (B3.alloc B3.size _).grown hg1 (by have := S3.out; simp; omega) (fun b hb => own_base ho hb)⟩
  have h : intsC [3] ++ [.int .i64 a, .int .i64 b, .int .i64 q, .int .i64 n] = intsC [3, a, b, q, n] := rfl
  rw [← h]
  first | exact hown1 | exact hg ▸ hown1

set_option maxRecDepth 100000 in
set_option maxHeartbeats 8000000 in
theorem renc_4 (a b q n i : Int) (ln pn : Nat) (LA PA : Option Addr) (lc pc : Nat) (w : World) :
    Calls Tryd.prog 14 #[.agg #[.int .i64 4, .int .i64 a, .int .i64 b, .int .i64 q, .int .i64 n, .int .i64 i, .slice LA ln lc, .slice PA pn pc]] w (RefEncTo w [4, a, b, q, n] 0) := by
  obtain ⟨i0, hi0, hz0, hz1, hz2⟩ := info_parts infoLongs
  obtain ⟨g, hg⟩ : ∃ g, w.heap.size = g := ⟨_, rfl⟩
  obtain ⟨W3, hW3⟩ : ∃ W, (w.alloc (.cells #[.int .i64 4, .int .i64 a, .int .i64 b, .int .i64 q, .int .i64 n, .int .i64 i, .slice LA ln lc, .slice PA pn pc] 33)).alloc (.cells #[.int .i64 4] 2) = W := ⟨_, rfl⟩
  have B3 : Below w.heap.size w W3 := hW3 ▸ ((Below.refl _ _).alloc (Nat.le_refl _) _).alloc (by simp) _
  have b1 : Blk W3 g 33 #[.int .i64 4, .int .i64 a, .int .i64 b, .int .i64 q, .int .i64 n, .int .i64 i, .slice LA ln lc, .slice PA pn pc] := by rw [← hW3, ← hg]; exact (Blk.new _ _ _).alloc _
  have ho : W3.ownsRow w.heap.size 2 1 (.slice (some ⟨g + 1, 0, none⟩) 1 1) 1 (intsC [4]) := by
    have h := own_first (w.alloc (.cells #[.int .i64 4, .int .i64 a, .int .i64 b, .int .i64 q, .int .i64 n, .int .i64 i, .slice LA ln lc, .slice PA pn pc] 33)) 4 w.heap.size (by simp)
    rw [hW3] at h
    rw [← hg]
    simpa using h
  have s3 := B3.size
  have k0 : W3.cell? ⟨g, 0, none⟩ = some (.int .i64 4) := b1.cell 0
  have k1 : W3.cell? ⟨g, 1, none⟩ = some (.int .i64 a) := b1.cell 1
  have k2 : W3.cell? ⟨g, 2, none⟩ = some (.int .i64 b) := b1.cell 2
  have k3 : W3.cell? ⟨g, 3, none⟩ = some (.int .i64 q) := b1.cell 3
  have k4 : W3.cell? ⟨g, 4, none⟩ = some (.int .i64 n) := b1.cell 4
  have k5 : W3.cell? ⟨g, 5, none⟩ = some (.int .i64 i) := b1.cell 5
  have k6 : W3.cell? ⟨g, 6, none⟩ = some (.slice LA ln lc) := b1.cell 6
  have k7 : W3.cell? ⟨g, 7, none⟩ = some (.slice PA pn pc) := b1.cell 7
  have B1 := Lib.hid b1
  have S3 := Lib.hid s3
  clear b1 s3
  go_enter Tryd.func14, Tryd.ntmps14
  go_wp2_with (first | (at_builtin; refine wpList_append_own _ rfl (.tmp 28) (.tmp 37) 34 rfl w.heap.size 2 i0 _ 1 8 Tryd.underlying34 hi0 hz0 hz1 hz2 rfl (by decide) _ (1) (intsC [4]) rfl (ho.alloc _) ⟨W3.heap.size, 0, none⟩ 4 4 [.int .i64 a, .int .i64 b, .int .i64 q, .int .i64 n] rfl rfl ?_ ?_ ?_ ?_ ?_ ?_; exact new_cells W3 2 [.int .i64 a, .int .i64 b, .int .i64 q, .int .i64 n]; (simp [Value.oneCell']); (unfold maxLen; omega); (omega); (have := S3.out; simp; omega); intro v1 w1 hown1 hg1 _))
  go_ret2
  refine ⟨v1, rfl, ?_, (B3.alloc B3.size _).grown hg1 (by have := S3.out; simp; omega) (fun b hb => own_base ho hb)⟩
  have h : intsC [4] ++ [.int .i64 a, .int .i64 b, .int .i64 q, .int .i64 n] = intsC [4, a, b, q, n] := rfl
  rw [← h]
  first | exact hown1 | exact hg ▸ hown1

set_option maxRecDepth 100000 in
set_option maxHeartbeats 8000000 in
theorem renc_6 (a b q n i : Int) (ln pn : Nat) (LA PA : Option Addr) (lc pc : Nat) (w : World) :
    Calls Tryd.prog 14 #[.agg #[.int .i64 6, .int .i64 a, .int .i64 b, .int .i64 q, .int .i64 n, .int .i64 i, .slice LA ln lc, .slice PA pn pc]] w (RefEncTo w [6, i] 0) := by
  obtain ⟨i0, hi0, hz0, hz1, hz2⟩ := info_parts infoLongs
  obtain ⟨g, hg⟩ : ∃ g, w.heap.size = g := ⟨_, rfl⟩
  obtain ⟨W3, hW3⟩ : ∃ W, (w.alloc (.cells #[.int .i64 6, .int .i64 a, .int .i64 b, .int .i64 q, .int .i64 n, .int .i64 i, .slice LA ln lc, .slice PA pn pc] 33)).alloc (.cells #[.int .i64 6] 2) = W := ⟨_, rfl⟩
  have B3 : Below w.heap.size w W3 := hW3 ▸ ((Below.refl _ _).alloc (Nat.le_refl _) _).alloc (by simp) _
  have b1 : Blk W3 g 33 #[.int .i64 6, .int .i64 a, .int .i64 b, .int .i64 q, .int .i64 n, .int .i64 i, .slice LA ln lc, .slice PA pn pc] := by rw [← hW3, ← hg]; exact (Blk.new _ _ _).alloc _
  have ho : W3.ownsRow w.heap.size 2 1 (.slice (some ⟨g + 1, 0, none⟩) 1 1) 1 (intsC [6]) := by
    have h := own_first (w.alloc (.cells #[.int .i64 6, .int .i64 a, .int .i64 b, .int .i64 q, .int .i64 n, .int .i64 i, .slice LA ln lc, .slice PA pn pc] 33)) 6 w.heap.size (by simp)
    rw [hW3] at h
    rw [← hg]
    simpa using h
  have s3 := B3.size
  have k0 : W3.cell? ⟨g, 0, none⟩ = some (.int .i64 6) := b1.cell 0
  have k1 : W3.cell? ⟨g, 1, none⟩ = some (.int .i64 a) := b1.cell 1
  have k2 : W3.cell? ⟨g, 2, none⟩ = some (.int .i64 b) := b1.cell 2
  have k3 : W3.cell? ⟨g, 3, none⟩ = some (.int .i64 q) := b1.cell 3
  have k4 : W3.cell? ⟨g, 4, none⟩ = some (.int .i64 n) := b1.cell 4
  have k5 : W3.cell? ⟨g, 5, none⟩ = some (.int .i64 i) := b1.cell 5
  have k6 : W3.cell? ⟨g, 6, none⟩ = some (.slice LA ln lc) := b1.cell 6
  have k7 : W3.cell? ⟨g, 7, none⟩ = some (.slice PA pn pc) := b1.cell 7
  have B1 := Lib.hid b1
  have S3 := Lib.hid s3
  clear b1 s3
  go_enter Tryd.func14, Tryd.ntmps14
  go_wp2_with (first | (at_builtin; refine wpList_append_own _ rfl (.tmp 74) (.tmp 77) 34 rfl w.heap.size 2 i0 _ 1 8 Tryd.underlying34 hi0 hz0 hz1 hz2 rfl (by decide) _ (1) (intsC [6]) rfl (ho.alloc _) ⟨W3.heap.size, 0, none⟩ 1 1 [.int .i64 i] rfl rfl ?_ ?_ ?_ ?_ ?_ ?_; exact new_cells W3 2 [.int .i64 i]; (simp [Value.oneCell']); (unfold maxLen; omega); (omega); (have := S3.out; simp; omega); intro v1 w1 hown1 hg1 _))
  go_ret2
  refine ⟨v1, rfl, ?_, (B3.alloc B3.size _).grown hg1 (by have := S3.out; simp; omega) (fun b hb => own_base ho hb)⟩
  have h : intsC [6] ++ [.int .i64 i] = intsC [6, i] := rfl
  rw [← h]
  first | exact hown1 | exact hg ▸ hown1

set_option maxRecDepth 100000 in
set_option maxHeartbeats 8000000 in
theorem renc_7 (a b q n i : Int) (ln pn : Nat) (LA PA : Option Addr) (lc pc : Nat) (w : World) :
    Calls Tryd.prog 14 #[.agg #[.int .i64 7, .int .i64 a, .int .i64 b, .int .i64 q, .int .i64 n, .int .i64 i, .slice LA ln lc, .slice PA pn pc]] w (RefEncTo w [7, i] 0) := by
  obtain ⟨i0, hi0, hz0, hz1, hz2⟩ := info_parts infoLongs
  obtain ⟨g, hg⟩ : ∃ g, w.heap.size = g := ⟨_, rfl⟩
  obtain ⟨W3, hW3⟩ : ∃ W, (w.alloc (.cells #[.int .i64 7, .int .i64 a, .int .i64 b, .int .i64 q, .int .i64 n, .int .i64 i, .slice LA ln lc, .slice PA pn pc] 33)).alloc (.cells #[.int .i64 7] 2) = W := ⟨_, rfl⟩
  have B3 : Below w.heap.size w W3 := hW3 ▸ ((Below.refl _ _).alloc (Nat.le_refl _) _).alloc (by simp) _
  have b1 : Blk W3 g 33 #[.int .i64 7, .int .i64 a, .int .i64 b, .int .i64 q, .int .i64 n, .int .i64 i, .slice LA ln lc, .slice PA pn pc] := by rw [← hW3, ← hg]; exact (Blk.new _ _ _).alloc _
  have ho : W3.ownsRow w.heap.size 2 1 (.slice (some ⟨g + 1, 0, none⟩) 1 1) 1 (intsC [7]) := by
    have h := own_first (w.alloc (.cells #[.int .i64 7, .int .i64 a, .int .i64 b, .int .i64 q, .int .i64 n, .int .i64 i, .slice LA ln lc, .slice PA pn pc] 33)) 7 w.heap.size (by simp)
    rw [hW3] at h
    rw [← hg]
    simpa using h
  have s3 := B3.size
  have k0 : W3.cell? ⟨g, 0, none⟩ = some (.int .i64 7) := b1.cell 0
  have k1 : W3.cell? ⟨g, 1, none⟩ = some (.int .i64 a) := b1.cell 1
  have k2 : W3.cell? ⟨g, 2, none⟩ = some (.int .i64 b) := b1.cell 2
  have k3 : W3.cell? ⟨g, 3, none⟩ = some (.int .i64 q) := b1.cell 3
  have k4 : W3.cell? ⟨g, 4, none⟩ = some (.int .i64 n) := b1.cell 4
  have k5 : W3.cell? ⟨g, 5, none⟩ = some (.int .i64 i) := b1.cell 5
  have k6 : W3.cell? ⟨g, 6, none⟩ = some (.slice LA ln lc) := b1.cell 6
  have k7 : W3.cell? ⟨g, 7, none⟩ = some (.slice PA pn pc) := b1.cell 7
  have B1 := Lib.hid b1
  have S3 := Lib.hid s3
  clear b1 s3
  go_enter Tryd.func14, Tryd.ntmps14
  go_wp2_with (first | (at_builtin; refine wpList_append_own _ rfl (.tmp 74) (.tmp 77) 34 rfl w.heap.size 2 i0 _ 1 8 Tryd.underlying34 hi0 hz0 hz1 hz2 rfl (by decide) _ (1) (intsC [7]) rfl (ho.alloc _) ⟨W3.heap.size, 0, none⟩ 1 1 [.int .i64 i] rfl rfl ?_ ?_ ?_ ?_ ?_ ?_; exact new_cells W3 2 [.int .i64 i]; (simp [Value.oneCell']); (unfold maxLen; omega); (omega); (have := S3.out; simp; omega); intro v1 w1 hown1 hg1 _))
  go_ret2
  refine ⟨v1, rfl, ?_, (B3.alloc B3.size _).grown hg1 (by have := S3.out; simp; omega) (fun b hb => own_base ho hb)⟩
  have h : intsC [7] ++ [.int .i64 i] = intsC [7, i] := rfl
  rw [← h]
  first | exact hown1 | exact hg ▸ hown1

set_option maxRecDepth 100000 in
set_option maxHeartbeats 8000000 in
theorem renc_other (c a b q n i : Int) (ln pn : Nat) (LA PA : Option Addr) (lc pc : Nat) (w : World) (h1 : (c == 1) = false) (h2 : (c == 2) = false) (h3 : (c == 3) = false) (h4 : (c == 4) = false) (h5 : (c == 5) = false) (h6 : (c == 6) = false) (h7 : (c == 7) = false) (h8 : (c == 8) = false) :
    Calls Tryd.prog 14 #[.agg #[.int .i64 c, .int .i64 a, .int .i64 b, .int .i64 q, .int .i64 n, .int .i64 i, .slice LA ln lc, .slice PA pn pc]] w (RefEncTo w [] 13) := by
  obtain ⟨i0, hi0, hz0, hz1, hz2⟩ := info_parts infoLongs
  obtain ⟨g, hg⟩ : ∃ g, w.heap.size = g := ⟨_, rfl⟩
  obtain ⟨W3, hW3⟩ : ∃ W, (w.alloc (.cells #[.int .i64 c, .int .i64 a, .int .i64 b, .int .i64 q, .int .i64 n, .int .i64 i, .slice LA ln lc, .slice PA pn pc] 33)).alloc (.cells #[.int .i64 c] 2) = W := ⟨_, rfl⟩
  have B3 : Below w.heap.size w W3 := hW3 ▸ ((Below.refl _ _).alloc (Nat.le_refl _) _).alloc (by simp) _
  have b1 : Blk W3 g 33 #[.int .i64 c, .int .i64 a, .int .i64 b, .int .i64 q, .int .i64 n, .int .i64 i, .slice LA ln lc, .slice PA pn pc] := by rw [← hW3, ← hg]; exact (Blk.new _ _ _).alloc _
  have ho : W3.ownsRow w.heap.size 2 1 (.slice (some ⟨g + 1, 0, none⟩) 1 1) 1 (intsC [c]) := by
    have h := own_first (w.alloc (.cells #[.int .i64 c, .int .i64 a, .int .i64 b, .int .i64 q, .int .i64 n, .int .i64 i, .slice LA ln lc, .slice PA pn pc] 33)) c w.heap.size (by simp)
    rw [hW3] at h
    rw [← hg]
    simpa using h
  have s3 := B3.size
  have k0 : W3.cell? ⟨g, 0, none⟩ = some (.int .i64 c) := b1.cell 0
  have k1 : W3.cell? ⟨g, 1, none⟩ = some (.int .i64 a) := b1.cell 1
  have k2 : W3.cell? ⟨g, 2, none⟩ = some (.int .i64 b) := b1.cell 2
  have k3 : W3.cell? ⟨g, 3, none⟩ = some (.int .i64 q) := b1.cell 3
  have k4 : W3.cell? ⟨g, 4, none⟩ = some (.int .i64 n) := b1.cell 4
  have k5 : W3.cell? ⟨g, 5, none⟩ = some (.int .i64 i) := b1.cell 5
  have k6 : W3.cell? ⟨g, 6, none⟩ = some (.slice LA ln lc) := b1.cell 6
  have k7 : W3.cell? ⟨g, 7, none⟩ = some (.slice PA pn pc) := b1.cell 7
  have B1 := Lib.hid b1
  have S3 := Lib.hid s3
  clear b1 s3
  go_enter Tryd.func14, Tryd.ntmps14
  go_wp2
  go_ret2
  exact ⟨nilS, rfl, World.ownsRow_nil _ _ _ _, B3⟩

set_option maxRecDepth 100000 in
set_option maxHeartbeats 8000000 in
theorem renc_5 (a b q n i : Int) (legs : List Leg) (pn : Nat) (LA PA : Option Addr) (lc pc : Nat) (w : World) (hr : Reads w w.heap.size 5 LA legs.length (legsC legs)) (hlen : legs.length * 40 ≤ 140737488351232) :
    Calls Tryd.prog 14 #[.agg #[.int .i64 5, .int .i64 a, .int .i64 b, .int .i64 q, .int .i64 n, .int .i64 i, .slice LA legs.length lc, .slice PA pn pc]] w (RefEncTo w (5 :: i :: legs.flatMap (fun x => [x.f, x.t, x.a, x.q, x.n])) 0) := by
  obtain ⟨i0, hi0, hz0, hz1, hz2⟩ := info_parts infoLongs
  obtain ⟨g, hg⟩ : ∃ g, w.heap.size = g := ⟨_, rfl⟩
  obtain ⟨W3, hW3⟩ : ∃ W, (w.alloc (.cells #[.int .i64 5, .int .i64 a, .int .i64 b, .int .i64 q, .int .i64 n, .int .i64 i, .slice LA legs.length lc, .slice PA pn pc] 33)).alloc (.cells #[.int .i64 5] 2) = W := ⟨_, rfl⟩
  have B3 : Below w.heap.size w W3 := hW3 ▸ ((Below.refl _ _).alloc (Nat.le_refl _) _).alloc (by simp) _
  have b1 : Blk W3 g 33 #[.int .i64 5, .int .i64 a, .int .i64 b, .int .i64 q, .int .i64 n, .int .i64 i, .slice LA legs.length lc, .slice PA pn pc] := by rw [← hW3, ← hg]; exact (Blk.new _ _ _).alloc _
  have ho : W3.ownsRow w.heap.size 2 1 (.slice (some ⟨g + 1, 0, none⟩) 1 1) 1 (intsC [5]) := by
    have h := own_first (w.alloc (.cells #[.int .i64 5, .int .i64 a, .int .i64 b, .int .i64 q, .int .i64 n, .int .i64 i, .slice LA legs.length lc, .slice PA pn pc] 33)) 5 w.heap.size (by simp)
    rw [hW3] at h
    rw [← hg]
    simpa using h
  have s3 := B3.size
  have k0 : W3.cell? ⟨g, 0, none⟩ = some (.int .i64 5) := b1.cell 0
  have k1 : W3.cell? ⟨g, 1, none⟩ = some (.int .i64 a) := b1.cell 1
  have k2 : W3.cell? ⟨g, 2, none⟩ = some (.int .i64 b) := b1.cell 2
  have k3 : W3.cell? ⟨g, 3, none⟩ = some (.int .i64 q) := b1.cell 3
  have k4 : W3.cell? ⟨g, 4, none⟩ = some (.int .i64 n) := b1.cell 4
  have k5 : W3.cell? ⟨g, 5, none⟩ = some (.int .i64 i) := b1.cell 5
  have k6 : W3.cell? ⟨g, 6, none⟩ = some (.slice LA legs.length lc) := b1.cell 6
  have k7 : W3.cell? ⟨g, 7, none⟩ = some (.slice PA pn pc) := b1.cell 7
  have B1 := Lib.hid b1
  have S3 := Lib.hid s3
  clear b1 s3
  go_enter Tryd.func14, Tryd.ntmps14
  go_wp2_with (first | (at_builtin; refine wpList_append_own _ rfl (.tmp 41) (.tmp 44) 34 rfl w.heap.size 2 i0 _ 1 8 Tryd.underlying34 hi0 hz0 hz1 hz2 rfl (by decide) _ (1) (intsC [5]) rfl (ho.alloc _) ⟨W3.heap.size, 0, none⟩ 1 1 [.int .i64 i] rfl rfl ?_ ?_ ?_ ?_ ?_ ?_; exact new_cells W3 2 [.int .i64 i]; (simp [Value.oneCell']); (unfold maxLen; omega); (omega); (have := S3.out; simp; omega); intro v1 w1 hown1 hg1 _))
  have hbw : Below w.heap.size w w1 := (B3.alloc B3.size _).grown hg1 (by have := S3.out; simp; omega) (fun b hb => own_base ho hb)
  have b1 : Blk w1 g 33 #[.int .i64 5, .int .i64 a, .int .i64 b, .int .i64 q, .int .i64 n, .int .i64 i, .slice LA legs.length lc, .slice PA pn pc] := (B1.out.alloc _).grown hg1 (fun he => own_blk_ne ho B1.out (by decide) he.symm)
  have hown0 : w1.ownsRow w.heap.size 2 1 v1 ((5 :: i :: (legs.take 0).flatMap (fun x => [x.f, x.t, x.a, x.q, x.n]))).length (intsC (5 :: i :: (legs.take 0).flatMap (fun x => [x.f, x.t, x.a, x.q, x.n]))) := by
    have h : intsC [5] ++ [.int .i64 i] = intsC [5, i] := rfl
    rw [h] at hown1
    simpa using (by first | exact hown1 | exact hg ▸ hown1 : w1.ownsRow w.heap.size 2 1 v1 2 (intsC [5, i]))
  clear hown1 hg1
  go_loopw [4, 5] (fun l j wr => ∃ k : Nat, k ≤ legs.length ∧ j = .int .i64 k ∧ wr.ownsRow w.heap.size 2 1 l ((5 :: i :: (legs.take k).flatMap (fun x => [x.f, x.t, x.a, x.q, x.n]))).length (intsC (5 :: i :: (legs.take k).flatMap (fun x => [x.f, x.t, x.a, x.q, x.n]))) ∧ Below w.heap.size w wr ∧ Blk wr g 33 #[.int .i64 5, .int .i64 a, .int .i64 b, .int .i64 q, .int .i64 n, .int .i64 i, .slice LA legs.length lc, .slice PA pn pc]) (fun _ j _ => legs.length - (intOf j).toNat)
  case atStart => exact ⟨0, Nat.zero_le _, rfl, hown0, hbw, b1⟩
  case round =>
    obtain ⟨k, hk, rfl, hown, hbel, hbox⟩ := hrel
    have kb : wr.cell? ⟨g, 6, none⟩ = some (.slice LA legs.length lc) := hbox.cell 6
    have sr := hbel.size
    by_cases hlt : k < legs.length
    · obtain ⟨ad, rfl, hadb, e0, e1, e2, e3, e4⟩ := legs_at (hr.below hbel) hlt
      have htk : legs.take (k + 1) = legs.take k ++ [legs[k]] := by rw [List.take_succ_eq_append_getElem hlt]
      have HTK := Lib.hid htk
      clear htk
      generalize hx : legs[k] = x at e0 e1 e2 e3 e4 HTK
      have HX := Lib.hid hx
      clear hx hr
      have hkl : (k : Int) < legs.length := by omega
      have hk0 : (0 : Int) ≤ k := by omega
      have hLn : ((5 :: i :: (legs.take k).flatMap (fun x => [x.f, x.t, x.a, x.q, x.n]))).length = 2 + k * 5 := by simp only [List.length_cons]; rw [flat_len 5 (fun _ => rfl), List.length_take, Nat.min_eq_left hk]; omega
      generalize hM : (5 :: i :: (legs.take k).flatMap (fun x => [x.f, x.t, x.a, x.q, x.n])) = M at hown hLn
      have HM := Lib.hid hM
      clear hM
      obtain ⟨RA, rc, rfl⟩ := own_slice_n hown
      have HB := Lib.hid hbox
      have SR := Lib.hid sr
      clear hbox sr
      go_wp2_with (first | (at_builtin; refine wpList_append_own _ rfl (.tmp 58) (.tmp 69) 34 rfl w.heap.size 2 i0 _ 1 8 Tryd.underlying34 hi0 hz0 hz1 hz2 rfl (by decide) _ M.length (intsC M) rfl ((hown.alloc _).alloc _) ⟨wr.heap.size + 1, 0, none⟩ 5 5 [.int .i64 x.f, .int .i64 x.t, .int .i64 x.a, .int .i64 x.q, .int .i64 x.n] rfl rfl ?_ ?_ ?_ ?_ ?_ ?_; (have h := new_cells (wr.alloc (.cells #[.int .i64 x.f, .int .i64 x.t, .int .i64 x.a, .int .i64 x.q, .int .i64 x.n] 45)) 2 [.int .i64 x.f, .int .i64 x.t, .int .i64 x.a, .int .i64 x.q, .int .i64 x.n]; simpa using h); (simp [Value.oneCell']); (unfold maxLen; omega); (omega); (have := SR.out; simp; omega); intro v1 w1 hown1 hg1 _))
      go_roundw
      case rel =>
        refine ⟨k + 1, by omega, by go_num, ?_, ((hbel.alloc hbel.size _).alloc (by have := hbel.size; simp; omega) _).grown hg1 (by have := hbel.size; simp; omega) (fun b hb => own_base hown hb), ((HB.out.alloc _).alloc _).grown hg1 (fun he => own_blk_ne hown HB.out (by decide) he.symm)⟩
        have h : intsC M ++ [.int .i64 x.f, .int .i64 x.t, .int .i64 x.a, .int .i64 x.q, .int .i64 x.n] = intsC (M ++ [x.f, x.t, x.a, x.q, x.n]) := by rw [← ints_push]; rfl
        rw [h] at hown1
        have hM := HM.out
        have hl : M.length + 5 = (M ++ [x.f, x.t, x.a, x.q, x.n]).length := by simp
        rw [hl] at hown1
        have hq : M ++ [x.f, x.t, x.a, x.q, x.n] = (5 :: i :: (legs.take (k + 1)).flatMap (fun x => [x.f, x.t, x.a, x.q, x.n])) := by rw [← hM, HTK.out, List.flatMap_append]; simp
        rw [hq] at hown1
        exact hown1
      case measure => simp [intOf]; omega
    · obtain rfl : k = legs.length := by omega
      rw [List.take_length] at hown
      generalize hM : (5 :: i :: legs.flatMap (fun x => [x.f, x.t, x.a, x.q, x.n])) = M at hown
      have HM := Lib.hid hM
      clear hM
      obtain ⟨RA, rc, rfl⟩ := own_slice_n hown
      go_wp2
      go_ret2
      have hM := HM.out
      subst hM
      exact ⟨_, rfl, hown, hbel⟩

set_option maxRecDepth 100000 in
set_option maxHeartbeats 8000000 in
theorem renc_8 (a b q n i : Int) (pairs : List Key) (ln : Nat) (LA PA : Option Addr) (lc pc : Nat) (w : World) (hr : Reads w w.heap.size 2 PA pairs.length (keysC pairs)) (hlen : pairs.length * 16 ≤ 140737488351232) :
    Calls Tryd.prog 14 #[.agg #[.int .i64 8, .int .i64 a, .int .i64 b, .int .i64 q, .int .i64 n, .int .i64 i, .slice LA ln lc, .slice PA pairs.length pc]] w (RefEncTo w (8 :: pairs.flatMap (fun x => [x.acc, x.ast])) 0) := by
  obtain ⟨i0, hi0, hz0, hz1, hz2⟩ := info_parts infoLongs
  obtain ⟨g, hg⟩ : ∃ g, w.heap.size = g := ⟨_, rfl⟩
  obtain ⟨W3, hW3⟩ : ∃ W, (w.alloc (.cells #[.int .i64 8, .int .i64 a, .int .i64 b, .int .i64 q, .int .i64 n, .int .i64 i, .slice LA ln lc, .slice PA pairs.length pc] 33)).alloc (.cells #[.int .i64 8] 2) = W := ⟨_, rfl⟩
  have B3 : Below w.heap.size w W3 := hW3 ▸ ((Below.refl _ _).alloc (Nat.le_refl _) _).alloc (by simp) _
  have b1 : Blk W3 g 33 #[.int .i64 8, .int .i64 a, .int .i64 b, .int .i64 q, .int .i64 n, .int .i64 i, .slice LA ln lc, .slice PA pairs.length pc] := by rw [← hW3, ← hg]; exact (Blk.new _ _ _).alloc _
  have ho : W3.ownsRow w.heap.size 2 1 (.slice (some ⟨g + 1, 0, none⟩) 1 1) 1 (intsC [8]) := by
    have h := own_first (w.alloc (.cells #[.int .i64 8, .int .i64 a, .int .i64 b, .int .i64 q, .int .i64 n, .int .i64 i, .slice LA ln lc, .slice PA pairs.length pc] 33)) 8 w.heap.size (by simp)
    rw [hW3] at h
    rw [← hg]
    simpa using h
  have s3 := B3.size
  have k0 : W3.cell? ⟨g, 0, none⟩ = some (.int .i64 8) := b1.cell 0
  have k1 : W3.cell? ⟨g, 1, none⟩ = some (.int .i64 a) := b1.cell 1
  have k2 : W3.cell? ⟨g, 2, none⟩ = some (.int .i64 b) := b1.cell 2
  have k3 : W3.cell? ⟨g, 3, none⟩ = some (.int .i64 q) := b1.cell 3
  have k4 : W3.cell? ⟨g, 4, none⟩ = some (.int .i64 n) := b1.cell 4
  have k5 : W3.cell? ⟨g, 5, none⟩ = some (.int .i64 i) := b1.cell 5
  have k6 : W3.cell? ⟨g, 6, none⟩ = some (.slice LA ln lc) := b1.cell 6
  have k7 : W3.cell? ⟨g, 7, none⟩ = some (.slice PA pairs.length pc) := b1.cell 7
  have B1 := Lib.hid b1
  have S3 := Lib.hid s3
  clear b1 s3
  go_enter Tryd.func14, Tryd.ntmps14
  go_wp2_with (fail)
  have hown0 : W3.ownsRow w.heap.size 2 1 (.slice (some ⟨g + 1, 0, none⟩) 1 1) ((8 :: (pairs.take 0).flatMap (fun x => [x.acc, x.ast]))).length (intsC (8 :: (pairs.take 0).flatMap (fun x => [x.acc, x.ast]))) := by simpa using ho
  go_loopw [4, 7] (fun l j wr => ∃ k : Nat, k ≤ pairs.length ∧ j = .int .i64 k ∧ wr.ownsRow w.heap.size 2 1 l ((8 :: (pairs.take k).flatMap (fun x => [x.acc, x.ast]))).length (intsC (8 :: (pairs.take k).flatMap (fun x => [x.acc, x.ast]))) ∧ Below w.heap.size w wr ∧ Blk wr g 33 #[.int .i64 8, .int .i64 a, .int .i64 b, .int .i64 q, .int .i64 n, .int .i64 i, .slice LA ln lc, .slice PA pairs.length pc]) (fun _ j _ => pairs.length - (intOf j).toNat)
  case atStart => exact ⟨0, Nat.zero_le _, rfl, hown0, B3, B1.out⟩
  case round =>
    obtain ⟨k, hk, rfl, hown, hbel, hbox⟩ := hrel
    have kb : wr.cell? ⟨g, 7, none⟩ = some (.slice PA pairs.length pc) := hbox.cell 7
    have sr := hbel.size
    by_cases hlt : k < pairs.length
    · obtain ⟨ad, rfl, hadb, e0, e1⟩ := keys_at (hr.below hbel) hlt
      have htk : pairs.take (k + 1) = pairs.take k ++ [pairs[k]] := by rw [List.take_succ_eq_append_getElem hlt]
      have HTK := Lib.hid htk
      clear htk
      generalize hx : pairs[k] = x at e0 e1 HTK
      have HX := Lib.hid hx
      clear hx hr
      have hkl : (k : Int) < pairs.length := by omega
      have hk0 : (0 : Int) ≤ k := by omega
      have hLn : ((8 :: (pairs.take k).flatMap (fun x => [x.acc, x.ast]))).length = 1 + k * 2 := by simp only [List.length_cons]; rw [flat_len 2 (fun _ => rfl), List.length_take, Nat.min_eq_left hk]; omega
      generalize hM : (8 :: (pairs.take k).flatMap (fun x => [x.acc, x.ast])) = M at hown hLn
      have HM := Lib.hid hM
      clear hM
      obtain ⟨RA, rc, rfl⟩ := own_slice_n hown
      have HB := Lib.hid hbox
      have SR := Lib.hid sr
      clear hbox sr
      rw [hLn] at hown
      have hownd : World.ownsRow ((wr.alloc (.cells #[.int .i64 x.acc, .int .i64 x.ast] 2)).drew) w.heap.size 2 1 (.slice RA (1 + k * 2) rc) (1 + k * 2) (intsC M) := hown.alloc _
      have HBd : Blk ((wr.alloc (.cells #[.int .i64 x.acc, .int .i64 x.ast] 2)).drew) g _ _ := HB.out.alloc _
      have e0d : World.cell? ((wr.alloc (.cells #[.int .i64 x.acc, .int .i64 x.ast] 2)).drew) (ad.add (k * 2)) = some (.int .i64 x.acc) := cell_alloc e0 _
      have e1d : World.cell? ((wr.alloc (.cells #[.int .i64 x.acc, .int .i64 x.ast] 2)).drew) ⟨(ad.add (k * 2)).block, (ad.add (k * 2)).off + 1, none⟩ = some (.int .i64 x.ast) := cell_alloc e1 _
      have hOW := Lib.hid hownd
      have hHB := Lib.hid HBd
      have hE0 := Lib.hid e0d
      have hE1 := Lib.hid e1d
      clear hownd HBd e0d e1d
      go_wp2_with (fail)
      go_region_held3 (fun w' => w'.cell? ⟨g, 7, none⟩ = some (.slice (some ad) pairs.length pc) ∧ w'.cell? (ad.add (k * 2)) = some (.int .i64 x.acc) ∧ w'.cell? ⟨(ad.add (k * 2)).block, (ad.add (k * 2)).off + 1, none⟩ = some (.int .i64 x.ast))
        (first | go_keep | fail)
        (first | (rw [if_pos (by rfl)]; refine wp_append_own _ (.tmp 88) (.tmp 101) 34 rfl w.heap.size 2 i0 _ 1 8 Tryd.underlying34 hi0 hz0 hz1 hz2 rfl (by decide) _ (1 + k * 2) (intsC M) rfl hOW.out ⟨wr.heap.size, 0, none⟩ 2 2 [.int .i64 x.acc, .int .i64 x.ast] rfl rfl ?_ ?_ ?_ ?_ ?_ ?_; exact new_cells wr 2 [.int .i64 x.acc, .int .i64 x.ast]; (simp [Value.oneCell']); (unfold maxLen; omega); (omega); (have := SR.out; simp; omega); intro v1 w1 hown1 hg1 _; have hg2 : World.grownBy ((wr.alloc (.cells #[.int .i64 x.acc, .int .i64 x.ast] 2)).drew) w1 (Value.slice RA (1 + k * 2) rc).ownBlock := hg1; have hbx := hHB.out.grown hg2 (fun he => own_blk_ne hown HB.out (by decide) he.symm); have q7 : w1.cell? ⟨g, 7, none⟩ = some (.slice (some ad) pairs.length pc) := hbx.cell 7; have hfr : ∀ p : Addr, p.block = ad.block → some p.block ≠ (Value.slice RA (1 + k * 2) rc).ownBlock := fun p hp he => (by have := own_base hown he.symm; omega); have q0 := hg2.cell hE0.out (hfr _ (block_of_add _ _)); have q1 := hg2.cell hE1.out (hfr _ (block_of_add _ _))))
      go_wp2
      go_roundw
      case rel =>
        refine ⟨k + 1, by omega, by go_num, ?_, (hbel.alloc SR.out _).drew.grown hg2 (by have := SR.out; simp; omega) (fun b hb => own_base hown hb), hbx⟩
        have h : intsC M ++ [.int .i64 x.acc, .int .i64 x.ast] = intsC (M ++ [x.acc, x.ast]) := by rw [← ints_push]; rfl
        rw [h] at hown1
        have hM := HM.out
        have hl : 1 + k * 2 + 2 = (M ++ [x.acc, x.ast]).length := by rw [List.length_append, hLn]; rfl
        rw [hl] at hown1
        have hq : M ++ [x.acc, x.ast] = (8 :: (pairs.take (k + 1)).flatMap (fun x => [x.acc, x.ast])) := by rw [← hM, HTK.out, List.flatMap_append]; simp
        rw [hq] at hown1
        exact hown1
      case measure => simp [intOf]; omega
    · obtain rfl : k = pairs.length := by omega
      rw [List.take_length] at hown
      generalize hM : (8 :: pairs.flatMap (fun x => [x.acc, x.ast])) = M at hown
      have HM := Lib.hid hM
      clear hM
      obtain ⟨RA, rc, rfl⟩ := own_slice_n hown
      go_wp2
      go_ret2
      have hM := HM.out
      subst hM
      exact ⟨_, rfl, hown, hbel⟩


/-- What both answer: the row (none where there is an error), the error's number. -/
def encR (o : Op) : List Int := if 1 ≤ o.code ∧ o.code ≤ 8 then encL o else []
def encE (o : Op) : Int := if 1 ≤ o.code ∧ o.code ≤ 8 then 0 else 13
theorem encE_num (o : Op) : 0 ≤ encE o ∧ encE o ≤ 24 := by unfold encE; split <;> omega
theorem encR_len (o : Op) (h1 : o.legs.length * 40 ≤ 140737488351232) (h2 : o.pairs.length * 16 ≤ 140737488351232) : (encR o).length * 8 ≤ 140737488351248 := by
  unfold encR
  split
  · unfold encL
    split
    · simp
    split
    · simp
    split
    · simp only [List.length_cons]; rw [flat_len 5 (fun _ => rfl)]; omega
    split
    · simp
    · simp only [List.length_cons]; rw [flat_len 2 (fun _ => rfl)]; omega
  · simp
theorem refenc_calls (o : Op) (LA PA : Option Addr) (lc pc : Nat) (w : World) (hrL : Reads w w.heap.size 5 LA o.legs.length (legsC o.legs)) (hrP : Reads w w.heap.size 2 PA o.pairs.length (keysC o.pairs)) (hl : o.legs.length * 40 ≤ 140737488351232) (hp : o.pairs.length * 16 ≤ 140737488351232) :
    Calls Tryd.prog 14 #[.agg #[.int .i64 o.code, .int .i64 o.acc, .int .i64 o.ast, .int .i64 o.qty, .int .i64 o.name, .int .i64 o.id, .slice LA o.legs.length lc, .slice PA o.pairs.length pc]] w (RefEncTo w (encR o) (encE o)) := by
  obtain ⟨c, a, b, q, n, i, ls, ks⟩ := o
  dsimp only at hrL hrP hl hp ⊢
  by_cases h1 : c = 1
  · subst h1; exact (renc_1 a b q n i _ _ LA PA lc pc w).mono fun e w' h => h
  by_cases h2 : c = 2
  · subst h2; exact (renc_2 a b q n i _ _ LA PA lc pc w).mono fun e w' h => h
  by_cases h3 : c = 3
  · subst h3; exact (renc_3 a b q n i _ _ LA PA lc pc w).mono fun e w' h => h
  by_cases h4 : c = 4
  · subst h4; exact (renc_4 a b q n i _ _ LA PA lc pc w).mono fun e w' h => h
  by_cases h5 : c = 5
  · subst h5; exact (renc_5 a b q n i ls _ LA PA lc pc w hrL hl).mono fun e w' h => h
  by_cases h6 : c = 6
  · subst h6; exact (renc_6 a b q n i _ _ LA PA lc pc w).mono fun e w' h => h
  by_cases h7 : c = 7
  · subst h7; exact (renc_7 a b q n i _ _ LA PA lc pc w).mono fun e w' h => h
  by_cases h8 : c = 8
  · subst h8; exact (renc_8 a b q n i ks _ LA PA lc pc w hrP hp).mono fun e w' h => h
  refine (renc_other c a b q n i _ _ LA PA lc pc w (beq_eq_false_iff_ne.2 h1) (beq_eq_false_iff_ne.2 h2) (beq_eq_false_iff_ne.2 h3) (beq_eq_false_iff_ne.2 h4) (beq_eq_false_iff_ne.2 h5) (beq_eq_false_iff_ne.2 h6) (beq_eq_false_iff_ne.2 h7) (beq_eq_false_iff_ne.2 h8)).mono fun e w' h => ?_
  unfold encR encE
  rw [if_neg (by dsimp only; omega), if_neg (by dsimp only; omega)]
  exact h
/-- A row of longs as guard.Encode gives it: none, or at the front of a block of the call's own. -/
def CR (w : World) (B : Nat) (A : Option Addr) (l : List Int) : Prop := (A = none ∧ l = []) ∨ ClipRow w B A l
def EncRes (w : World) (o : Op) (e : Ending) (w' : World) : Prop :=
  ∃ A, e = .returned (.tuple #[.slice A (encR o).length (encR o).length, errV (encE o)]) ∧ CR w' w.heap.size A (encR o) ∧ Below w.heap.size w w'
theorem enc_res {w w' : World} {o : Op} {e : Ending} (h : EncPost w o e w') : EncRes w o e w' := by
  unfold EncPost at h
  unfold EncRes encR encE
  split at h
  · rename_i hc
    obtain ⟨A, h1, h2, h3⟩ := h
    rw [if_pos hc, if_pos hc]
    exact ⟨A, h1, .inr h2, h3⟩
  · rename_i hc
    rw [if_neg hc, if_neg hc]
    exact ⟨none, h.1, .inl ⟨rfl, rfl⟩, h.2⟩
end Go.Proofs.YtmdkcggmnejkoaaDoor
