/- custodylaw14's shown by a contract (printed by gen_shown14.py). -/
import Derived.Test.YtcgcgekefhhjhaaDoorSeven14
namespace Go.Proofs.YtcgcgekefhhjhaaDoor
set_option linter.unusedSimpArgs false
set_option linter.unusedVariables false
open Go.RowKit

theorem pairs1 {w : World} {g : Nat} {a b : Int} (h : Blk w g 2 #[.int .i64 a, .int .i64 b]) : PairsAt w (some ⟨g, 0, none⟩) [⟨a, b⟩] := by
  intro i hi
  obtain rfl : i = 0 := by simpa using hi
  exact ⟨g, rfl, h.cell 0, h.cell 1⟩
theorem pairs2 {w : World} {g : Nat} {a b c d : Int} (h : Blk w g 2 #[.int .i64 a, .int .i64 b, .int .i64 c, .int .i64 d]) : PairsAt w (some ⟨g, 0, none⟩) [⟨a, b⟩, ⟨c, d⟩] := by
  intro i hi
  match i, hi with
  | 0, _ => exact ⟨g, rfl, h.cell 0, h.cell 1⟩
  | 1, _ => exact ⟨g, rfl, h.cell 2, h.cell 3⟩
theorem pairs0 {w : World} {X : Option Addr} : PairsAt w X [] := fun i hi => absurd hi (by simp)
theorem reads_blk {w : World} {g : Nat} {t : TypeId} {cs : List Value} {n : Nat} (h : Blk w g t cs.toArray) (hc : cs.length = n * 2) : Reads w w.heap.size 2 (some ⟨g, 0, none⟩) n cs :=
  ⟨hc, fun _ => ⟨_, rfl, h.lt, blk_cells h⟩⟩

set_option maxRecDepth 100000 in
set_option maxHeartbeats 4000000 in
theorem shown_calls (w : World) (hG : HG w) : Calls Tryd.prog 31 #[] w fun e w' => e = .returned (.bool true) ∧ Below w.heap.size w w' := by
  have HG_0 := Lib.hid (hG)
  have HB_0 := Lib.hid (Below.refl w.heap.size w)
  clear hG
  go_enter Tryd.func31, Tryd.ntmps31
  go_wp2_with (fail)
  refine (markX_calls 5 [] none 0 0 (3) (7) w ⟨Reads.none_, by decide, by simp, by simp⟩ (Nat.zero_le _) HG_0.out (by decide)).mono ?_
  rintro e wo1 ⟨hb1, v1, rfl, hm1⟩
  have hc1 : markS 5 [] 3 7 = ⟨0, none, 2, [⟨7, 3⟩]⟩ := rfl
  rw [hc1] at hm1 ⊢
  obtain ⟨Aa, ca, rfl⟩ := own_slice hm1
  dsimp only [List.length_cons, List.length_nil] at hm1 ⊢
  rw [show outV ((0 : Int), (none : Option Int)) = .nilIface from rfl]
  have HG_1 := Lib.hid (HG_0.out.below hb1)
  have HB_1 := Lib.hid (HB_0.out.trans (hb1.mono HB_0.out.size))
  have Ma_1 := Lib.hid (hm1)
  clear hb1 hm1 hc1
  obtain ⟨ga, hga⟩ : ∃ g, wo1.heap.size = g := ⟨_, rfl⟩
  obtain ⟨W2, hW2⟩ : ∃ X, wo1.alloc (.cells #[.int .i64 2, .slice Aa 1 ca] 24) = X := ⟨_, rfl⟩
  have hbW2 : Below wo1.heap.size wo1 W2 := hW2 ▸ (Below.refl _ _).alloc (Nat.le_refl _) _
  have hna : Blk W2 ga 24 #[.int .i64 2, .slice Aa 1 ca] := by rw [← hW2]; exact blkNew hga
  have HG_2 := Lib.hid (HG_1.out.below hbW2)
  have HB_2 := Lib.hid (HB_1.out.trans (hbW2.mono HB_1.out.size))
  have Ma_2 := Lib.hid (Ma_1.out.below hbW2)
  have Pa_2 := Lib.hid (hna)
  clear hbW2 hna
  go_wp2_with (fail)
  refine (seven_calls (2) W2).mono ?_
  rintro e ws2 ⟨gs2, rfl, hr2, hb2⟩
  clear hW2 hga
  have HG_3 := Lib.hid (HG_2.out.below hb2)
  have HB_3 := Lib.hid (HB_2.out.trans (hb2.mono HB_2.out.size))
  have Ma_3 := Lib.hid (Ma_2.out.below hb2)
  have Pa_3 := Lib.hid (Pa_2.out.below hb2 Pa_2.out.lt)
  have HS2 := Lib.hid hr2
  clear hr2 hb2
  go_wp2_with (fail)
  refine (markX_calls (2) [⟨7, 3⟩] (some ⟨gs2, 0, none⟩) 1 ws2.heap.size (1) (4) ws2 ⟨HS2.out, by decide, by simp, by simp⟩ (Nat.le_refl _) HG_3.out (by decide)).mono ?_
  rintro e wo3 ⟨hb3, v3, rfl, hm3⟩
  have hc3 : markS 2 [⟨7, 3⟩] 1 4 = ⟨0, none, 1, [⟨4, 1⟩, ⟨7, 3⟩]⟩ := rfl
  rw [hc3] at hm3 ⊢
  obtain ⟨Ab, cb, rfl⟩ := own_slice hm3
  dsimp only [List.length_cons, List.length_nil] at hm3 ⊢
  rw [show outV ((0 : Int), (none : Option Int)) = .nilIface from rfl]
  have HG_4 := Lib.hid (HG_3.out.below hb3)
  have HB_4 := Lib.hid (HB_3.out.trans (hb3.mono HB_3.out.size))
  have Ma_4 := Lib.hid (Ma_3.out.below hb3)
  have Pa_4 := Lib.hid (Pa_3.out.below hb3 Pa_3.out.lt)
  have Mb_4 := Lib.hid (hm3)
  clear hb3 hm3 hc3 HS2
  obtain ⟨gb, hgb⟩ : ∃ g, wo3.heap.size = g := ⟨_, rfl⟩
  obtain ⟨W5, hW5⟩ : ∃ X, wo3.alloc (.cells #[.int .i64 1, .slice Ab 2 cb] 24) = X := ⟨_, rfl⟩
  have hbW5 : Below wo3.heap.size wo3 W5 := hW5 ▸ (Below.refl _ _).alloc (Nat.le_refl _) _
  have hnb : Blk W5 gb 24 #[.int .i64 1, .slice Ab 2 cb] := by rw [← hW5]; exact blkNew hgb
  have HG_5 := Lib.hid (HG_4.out.below hbW5)
  have HB_5 := Lib.hid (HB_4.out.trans (hbW5.mono HB_4.out.size))
  have Ma_5 := Lib.hid (Ma_4.out.below hbW5)
  have Pa_5 := Lib.hid (Pa_4.out.below hbW5 Pa_4.out.lt)
  have Mb_5 := Lib.hid (Mb_4.out.below hbW5)
  have Pb_5 := Lib.hid (hnb)
  clear hbW5 hnb
  go_wp2_with (fail)
  refine (seven_calls (2) W5).mono ?_
  rintro e ws4 ⟨gs4, rfl, hr4, hb4⟩
  clear hW5 hgb
  have HG_6 := Lib.hid (HG_5.out.below hb4)
  have HB_6 := Lib.hid (HB_5.out.trans (hb4.mono HB_5.out.size))
  have Ma_6 := Lib.hid (Ma_5.out.below hb4)
  have Pa_6 := Lib.hid (Pa_5.out.below hb4 Pa_5.out.lt)
  have Mb_6 := Lib.hid (Mb_5.out.below hb4)
  have Pb_6 := Lib.hid (Pb_5.out.below hb4 Pb_5.out.lt)
  have HS4 := Lib.hid hr4
  clear hr4 hb4
  go_wp2_with (fail)
  refine (debit_calls (2) [⟨7, 3⟩] (some ⟨gs4, 0, none⟩) 1 ws4.heap.size (4) (7) ws4 ⟨HS4.out, by decide, by simp, by simp⟩ (Nat.le_refl _) HG_6.out (by decide)).mono ?_
  rintro e wo5 ⟨hb5, v5, rfl, hm5⟩
  have hc5 : debitS 2 [⟨7, 3⟩] 4 7 = ⟨0, none, 1, []⟩ := rfl
  rw [hc5] at hm5 ⊢
  obtain ⟨Ac, cc, rfl⟩ := own_slice hm5
  dsimp only [List.length_cons, List.length_nil] at hm5 ⊢
  rw [show outV ((0 : Int), (none : Option Int)) = .nilIface from rfl]
  have HG_7 := Lib.hid (HG_6.out.below hb5)
  have HB_7 := Lib.hid (HB_6.out.trans (hb5.mono HB_6.out.size))
  have Ma_7 := Lib.hid (Ma_6.out.below hb5)
  have Pa_7 := Lib.hid (Pa_6.out.below hb5 Pa_6.out.lt)
  have Mb_7 := Lib.hid (Mb_6.out.below hb5)
  have Pb_7 := Lib.hid (Pb_6.out.below hb5 Pb_6.out.lt)
  have Mc_7 := Lib.hid (hm5)
  clear hb5 hm5 hc5 HS4
  obtain ⟨gc, hgc⟩ : ∃ g, wo5.heap.size = g := ⟨_, rfl⟩
  obtain ⟨W8, hW8⟩ : ∃ X, wo5.alloc (.cells #[.int .i64 1, .slice Ac 0 cc] 24) = X := ⟨_, rfl⟩
  have hbW8 : Below wo5.heap.size wo5 W8 := hW8 ▸ (Below.refl _ _).alloc (Nat.le_refl _) _
  have hnc : Blk W8 gc 24 #[.int .i64 1, .slice Ac 0 cc] := by rw [← hW8]; exact blkNew hgc
  have HG_8 := Lib.hid (HG_7.out.below hbW8)
  have HB_8 := Lib.hid (HB_7.out.trans (hbW8.mono HB_7.out.size))
  have Ma_8 := Lib.hid (Ma_7.out.below hbW8)
  have Pa_8 := Lib.hid (Pa_7.out.below hbW8 Pa_7.out.lt)
  have Mb_8 := Lib.hid (Mb_7.out.below hbW8)
  have Pb_8 := Lib.hid (Pb_7.out.below hbW8 Pb_7.out.lt)
  have Mc_8 := Lib.hid (Mc_7.out.below hbW8)
  have Pc_8 := Lib.hid (hnc)
  clear hbW8 hnc
  go_wp2_with (fail)
  refine (seven_calls (2) W8).mono ?_
  rintro e ws6 ⟨gs6, rfl, hr6, hb6⟩
  clear hW8 hgc
  have HG_9 := Lib.hid (HG_8.out.below hb6)
  have HB_9 := Lib.hid (HB_8.out.trans (hb6.mono HB_8.out.size))
  have Ma_9 := Lib.hid (Ma_8.out.below hb6)
  have Pa_9 := Lib.hid (Pa_8.out.below hb6 Pa_8.out.lt)
  have Mb_9 := Lib.hid (Mb_8.out.below hb6)
  have Pb_9 := Lib.hid (Pb_8.out.below hb6 Pb_8.out.lt)
  have Mc_9 := Lib.hid (Mc_8.out.below hb6)
  have Pc_9 := Lib.hid (Pc_8.out.below hb6 Pc_8.out.lt)
  have HS6 := Lib.hid hr6
  clear hr6 hb6
  go_wp2_with (fail)
  refine (debit_calls (2) [⟨7, 3⟩] (some ⟨gs6, 0, none⟩) 1 ws6.heap.size (2) (9) ws6 ⟨HS6.out, by decide, by simp, by simp⟩ (Nat.le_refl _) HG_9.out (by decide)).mono ?_
  rintro e wo7 ⟨hb7, v7, rfl, hm7⟩
  have hc7 : debitS 2 [⟨7, 3⟩] 2 9 = ⟨0, none, 0, [⟨7, 3⟩]⟩ := rfl
  rw [hc7] at hm7 ⊢
  obtain ⟨Ad, cd, rfl⟩ := own_slice hm7
  dsimp only [List.length_cons, List.length_nil] at hm7 ⊢
  rw [show outV ((0 : Int), (none : Option Int)) = .nilIface from rfl]
  have HG_10 := Lib.hid (HG_9.out.below hb7)
  have HB_10 := Lib.hid (HB_9.out.trans (hb7.mono HB_9.out.size))
  have Ma_10 := Lib.hid (Ma_9.out.below hb7)
  have Pa_10 := Lib.hid (Pa_9.out.below hb7 Pa_9.out.lt)
  have Mb_10 := Lib.hid (Mb_9.out.below hb7)
  have Pb_10 := Lib.hid (Pb_9.out.below hb7 Pb_9.out.lt)
  have Mc_10 := Lib.hid (Mc_9.out.below hb7)
  have Pc_10 := Lib.hid (Pc_9.out.below hb7 Pc_9.out.lt)
  have Md_10 := Lib.hid (hm7)
  clear hb7 hm7 hc7 HS6
  obtain ⟨gd, hgd⟩ : ∃ g, wo7.heap.size = g := ⟨_, rfl⟩
  obtain ⟨W11, hW11⟩ : ∃ X, wo7.alloc (.cells #[.int .i64 0, .slice Ad 1 cd] 24) = X := ⟨_, rfl⟩
  have hbW11 : Below wo7.heap.size wo7 W11 := hW11 ▸ (Below.refl _ _).alloc (Nat.le_refl _) _
  have hnd : Blk W11 gd 24 #[.int .i64 0, .slice Ad 1 cd] := by rw [← hW11]; exact blkNew hgd
  have HG_11 := Lib.hid (HG_10.out.below hbW11)
  have HB_11 := Lib.hid (HB_10.out.trans (hbW11.mono HB_10.out.size))
  have Ma_11 := Lib.hid (Ma_10.out.below hbW11)
  have Pa_11 := Lib.hid (Pa_10.out.below hbW11 Pa_10.out.lt)
  have Mb_11 := Lib.hid (Mb_10.out.below hbW11)
  have Pb_11 := Lib.hid (Pb_10.out.below hbW11 Pb_10.out.lt)
  have Mc_11 := Lib.hid (Mc_10.out.below hbW11)
  have Pc_11 := Lib.hid (Pc_10.out.below hbW11 Pc_10.out.lt)
  have Md_11 := Lib.hid (Md_10.out.below hbW11)
  have Pd_11 := Lib.hid (hnd)
  clear hbW11 hnd
  have cPa0_11 : W11.cell? ⟨ga, 0, none⟩ = some (.int .i64 2) := Pa_11.out.cell 0
  have cPa1_11 : W11.cell? ⟨ga, 1, none⟩ = some (.slice Aa 1 ca) := Pa_11.out.cell 1
  obtain ⟨gxa, hgxa⟩ : ∃ g, W11.heap.size = g := ⟨_, rfl⟩
  obtain ⟨W12, hW12⟩ : ∃ X, W11.alloc (.cells #[.int .i64 7, .int .i64 3] 2) = X := ⟨_, rfl⟩
  have hbW12 : Below W11.heap.size W11 W12 := hW12 ▸ (Below.refl _ _).alloc (Nat.le_refl _) _
  have hnxa : Blk W12 gxa 2 #[.int .i64 7, .int .i64 3] := by rw [← hW12]; exact blkNew hgxa
  have HG_12 := Lib.hid (HG_11.out.below hbW12)
  have HB_12 := Lib.hid (HB_11.out.trans (hbW12.mono HB_11.out.size))
  have Ma_12 := Lib.hid (Ma_11.out.below hbW12)
  have Pa_12 := Lib.hid (Pa_11.out.below hbW12 Pa_11.out.lt)
  have Mb_12 := Lib.hid (Mb_11.out.below hbW12)
  have Pb_12 := Lib.hid (Pb_11.out.below hbW12 Pb_11.out.lt)
  have Mc_12 := Lib.hid (Mc_11.out.below hbW12)
  have Pc_12 := Lib.hid (Pc_11.out.below hbW12 Pc_11.out.lt)
  have Md_12 := Lib.hid (Md_11.out.below hbW12)
  have Pd_12 := Lib.hid (Pd_11.out.below hbW12 Pd_11.out.lt)
  have Pxa_12 := Lib.hid (hnxa)
  clear hbW12 hnxa
  go_wp2_with (fail)
  refine (isP_calls (2) [⟨7, 3⟩] Aa (some ⟨gxa, 0, none⟩) ca 2 W12.heap.size 2 W12 (Reads.of_own Ma_12.out) (Nat.le_refl _) (pairs1 Pxa_12.out) rfl (by decide)).mono ?_
  rintro e wi8 ⟨rfl, hb8⟩
  clear hW11 hgd cPa0_11 cPa1_11 hW12 hgxa
  have HG_13 := Lib.hid (HG_12.out.below hb8)
  have HB_13 := Lib.hid (HB_12.out.trans (hb8.mono HB_12.out.size))
  have Ma_13 := Lib.hid (Ma_12.out.below hb8)
  have Pa_13 := Lib.hid (Pa_12.out.below hb8 Pa_12.out.lt)
  have Mb_13 := Lib.hid (Mb_12.out.below hb8)
  have Pb_13 := Lib.hid (Pb_12.out.below hb8 Pb_12.out.lt)
  have Mc_13 := Lib.hid (Mc_12.out.below hb8)
  have Pc_13 := Lib.hid (Pc_12.out.below hb8 Pc_12.out.lt)
  have Md_13 := Lib.hid (Md_12.out.below hb8)
  have Pd_13 := Lib.hid (Pd_12.out.below hb8 Pd_12.out.lt)
  have Pxa_13 := Lib.hid (Pxa_12.out.below hb8 Pxa_12.out.lt)
  clear hb8
  have cPb0_13 : wi8.cell? ⟨gb, 0, none⟩ = some (.int .i64 1) := Pb_13.out.cell 0
  have cPb1_13 : wi8.cell? ⟨gb, 1, none⟩ = some (.slice Ab 2 cb) := Pb_13.out.cell 1
  obtain ⟨gxb, hgxb⟩ : ∃ g, wi8.heap.size = g := ⟨_, rfl⟩
  obtain ⟨W14, hW14⟩ : ∃ X, wi8.alloc (.cells #[.int .i64 4, .int .i64 1, .int .i64 7, .int .i64 3] 2) = X := ⟨_, rfl⟩
  have hbW14 : Below wi8.heap.size wi8 W14 := hW14 ▸ (Below.refl _ _).alloc (Nat.le_refl _) _
  have hnxb : Blk W14 gxb 2 #[.int .i64 4, .int .i64 1, .int .i64 7, .int .i64 3] := by rw [← hW14]; exact blkNew hgxb
  have HG_14 := Lib.hid (HG_13.out.below hbW14)
  have HB_14 := Lib.hid (HB_13.out.trans (hbW14.mono HB_13.out.size))
  have Ma_14 := Lib.hid (Ma_13.out.below hbW14)
  have Pa_14 := Lib.hid (Pa_13.out.below hbW14 Pa_13.out.lt)
  have Mb_14 := Lib.hid (Mb_13.out.below hbW14)
  have Pb_14 := Lib.hid (Pb_13.out.below hbW14 Pb_13.out.lt)
  have Mc_14 := Lib.hid (Mc_13.out.below hbW14)
  have Pc_14 := Lib.hid (Pc_13.out.below hbW14 Pc_13.out.lt)
  have Md_14 := Lib.hid (Md_13.out.below hbW14)
  have Pd_14 := Lib.hid (Pd_13.out.below hbW14 Pd_13.out.lt)
  have Pxa_14 := Lib.hid (Pxa_13.out.below hbW14 Pxa_13.out.lt)
  have Pxb_14 := Lib.hid (hnxb)
  clear hbW14 hnxb
  go_wp2_with (fail)
  refine (isP_calls (1) [⟨4, 1⟩, ⟨7, 3⟩] Ab (some ⟨gxb, 0, none⟩) cb 4 W14.heap.size 4 W14 (Reads.of_own Mb_14.out) (Nat.le_refl _) (pairs2 Pxb_14.out) rfl (by decide)).mono ?_
  rintro e wi9 ⟨rfl, hb9⟩
  clear cPb0_13 cPb1_13 hW14 hgxb
  have HG_15 := Lib.hid (HG_14.out.below hb9)
  have HB_15 := Lib.hid (HB_14.out.trans (hb9.mono HB_14.out.size))
  have Ma_15 := Lib.hid (Ma_14.out.below hb9)
  have Pa_15 := Lib.hid (Pa_14.out.below hb9 Pa_14.out.lt)
  have Mb_15 := Lib.hid (Mb_14.out.below hb9)
  have Pb_15 := Lib.hid (Pb_14.out.below hb9 Pb_14.out.lt)
  have Mc_15 := Lib.hid (Mc_14.out.below hb9)
  have Pc_15 := Lib.hid (Pc_14.out.below hb9 Pc_14.out.lt)
  have Md_15 := Lib.hid (Md_14.out.below hb9)
  have Pd_15 := Lib.hid (Pd_14.out.below hb9 Pd_14.out.lt)
  have Pxa_15 := Lib.hid (Pxa_14.out.below hb9 Pxa_14.out.lt)
  have Pxb_15 := Lib.hid (Pxb_14.out.below hb9 Pxb_14.out.lt)
  clear hb9
  have cPc0_15 : wi9.cell? ⟨gc, 0, none⟩ = some (.int .i64 1) := Pc_15.out.cell 0
  have cPc1_15 : wi9.cell? ⟨gc, 1, none⟩ = some (.slice Ac 0 cc) := Pc_15.out.cell 1
  go_wp2_with (fail)
  refine (isP_calls (1) [] Ac none cc 0 wi9.heap.size 0 wi9 (Reads.of_own Mc_15.out) (Nat.le_refl _) pairs0 rfl (by decide)).mono ?_
  rintro e wi10 ⟨rfl, hb10⟩
  clear cPc0_15 cPc1_15
  have HG_16 := Lib.hid (HG_15.out.below hb10)
  have HB_16 := Lib.hid (HB_15.out.trans (hb10.mono HB_15.out.size))
  have Ma_16 := Lib.hid (Ma_15.out.below hb10)
  have Pa_16 := Lib.hid (Pa_15.out.below hb10 Pa_15.out.lt)
  have Mb_16 := Lib.hid (Mb_15.out.below hb10)
  have Pb_16 := Lib.hid (Pb_15.out.below hb10 Pb_15.out.lt)
  have Mc_16 := Lib.hid (Mc_15.out.below hb10)
  have Pc_16 := Lib.hid (Pc_15.out.below hb10 Pc_15.out.lt)
  have Md_16 := Lib.hid (Md_15.out.below hb10)
  have Pd_16 := Lib.hid (Pd_15.out.below hb10 Pd_15.out.lt)
  have Pxa_16 := Lib.hid (Pxa_15.out.below hb10 Pxa_15.out.lt)
  have Pxb_16 := Lib.hid (Pxb_15.out.below hb10 Pxb_15.out.lt)
  clear hb10
  have cPd0_16 : wi10.cell? ⟨gd, 0, none⟩ = some (.int .i64 0) := Pd_16.out.cell 0
  have cPd1_16 : wi10.cell? ⟨gd, 1, none⟩ = some (.slice Ad 1 cd) := Pd_16.out.cell 1
  obtain ⟨gxd, hgxd⟩ : ∃ g, wi10.heap.size = g := ⟨_, rfl⟩
  obtain ⟨W17, hW17⟩ : ∃ X, wi10.alloc (.cells #[.int .i64 7, .int .i64 3] 2) = X := ⟨_, rfl⟩
  have hbW17 : Below wi10.heap.size wi10 W17 := hW17 ▸ (Below.refl _ _).alloc (Nat.le_refl _) _
  have hnxd : Blk W17 gxd 2 #[.int .i64 7, .int .i64 3] := by rw [← hW17]; exact blkNew hgxd
  have HG_17 := Lib.hid (HG_16.out.below hbW17)
  have HB_17 := Lib.hid (HB_16.out.trans (hbW17.mono HB_16.out.size))
  have Ma_17 := Lib.hid (Ma_16.out.below hbW17)
  have Pa_17 := Lib.hid (Pa_16.out.below hbW17 Pa_16.out.lt)
  have Mb_17 := Lib.hid (Mb_16.out.below hbW17)
  have Pb_17 := Lib.hid (Pb_16.out.below hbW17 Pb_16.out.lt)
  have Mc_17 := Lib.hid (Mc_16.out.below hbW17)
  have Pc_17 := Lib.hid (Pc_16.out.below hbW17 Pc_16.out.lt)
  have Md_17 := Lib.hid (Md_16.out.below hbW17)
  have Pd_17 := Lib.hid (Pd_16.out.below hbW17 Pd_16.out.lt)
  have Pxa_17 := Lib.hid (Pxa_16.out.below hbW17 Pxa_16.out.lt)
  have Pxb_17 := Lib.hid (Pxb_16.out.below hbW17 Pxb_16.out.lt)
  have Pxd_17 := Lib.hid (hnxd)
  clear hbW17 hnxd
  go_wp2_with (fail)
  refine (isP_calls (0) [⟨7, 3⟩] Ad (some ⟨gxd, 0, none⟩) cd 2 W17.heap.size 2 W17 (Reads.of_own Md_17.out) (Nat.le_refl _) (pairs1 Pxd_17.out) rfl (by decide)).mono ?_
  rintro e wi11 ⟨rfl, hb11⟩
  clear cPd0_16 cPd1_16 hW17 hgxd
  have HG_18 := Lib.hid (HG_17.out.below hb11)
  have HB_18 := Lib.hid (HB_17.out.trans (hb11.mono HB_17.out.size))
  have Ma_18 := Lib.hid (Ma_17.out.below hb11)
  have Pa_18 := Lib.hid (Pa_17.out.below hb11 Pa_17.out.lt)
  have Mb_18 := Lib.hid (Mb_17.out.below hb11)
  have Pb_18 := Lib.hid (Pb_17.out.below hb11 Pb_17.out.lt)
  have Mc_18 := Lib.hid (Mc_17.out.below hb11)
  have Pc_18 := Lib.hid (Pc_17.out.below hb11 Pc_17.out.lt)
  have Md_18 := Lib.hid (Md_17.out.below hb11)
  have Pd_18 := Lib.hid (Pd_17.out.below hb11 Pd_17.out.lt)
  have Pxa_18 := Lib.hid (Pxa_17.out.below hb11 Pxa_17.out.lt)
  have Pxb_18 := Lib.hid (Pxb_17.out.below hb11 Pxb_17.out.lt)
  have Pxd_18 := Lib.hid (Pxd_17.out.below hb11 Pxd_17.out.lt)
  clear hb11
  go_wp2_with (fail)
  refine (seven_calls (2) wi11).mono ?_
  rintro e ws12 ⟨gs12, rfl, hr12, hb12⟩
  have HG_19 := Lib.hid (HG_18.out.below hb12)
  have HB_19 := Lib.hid (HB_18.out.trans (hb12.mono HB_18.out.size))
  have Ma_19 := Lib.hid (Ma_18.out.below hb12)
  have Pa_19 := Lib.hid (Pa_18.out.below hb12 Pa_18.out.lt)
  have Mb_19 := Lib.hid (Mb_18.out.below hb12)
  have Pb_19 := Lib.hid (Pb_18.out.below hb12 Pb_18.out.lt)
  have Mc_19 := Lib.hid (Mc_18.out.below hb12)
  have Pc_19 := Lib.hid (Pc_18.out.below hb12 Pc_18.out.lt)
  have Md_19 := Lib.hid (Md_18.out.below hb12)
  have Pd_19 := Lib.hid (Pd_18.out.below hb12 Pd_18.out.lt)
  have Pxa_19 := Lib.hid (Pxa_18.out.below hb12 Pxa_18.out.lt)
  have Pxb_19 := Lib.hid (Pxb_18.out.below hb12 Pxb_18.out.lt)
  have Pxd_19 := Lib.hid (Pxd_18.out.below hb12 Pxd_18.out.lt)
  have HS12 := Lib.hid hr12
  clear hr12 hb12
  go_wp2_with (fail)
  refine (unmark_calls (2) [⟨7, 3⟩] (some ⟨gs12, 0, none⟩) 1 ws12.heap.size (3) (7) ws12 ⟨HS12.out, by decide, by simp, by simp⟩ (Nat.le_refl _) HG_19.out (by decide)).mono ?_
  rintro e wo13 ⟨hb13, v13, rfl, hm13⟩
  have hc13 : unmarkS 2 [⟨7, 3⟩] 3 7 = ⟨0, none, 5, []⟩ := rfl
  rw [hc13] at hm13 ⊢
  obtain ⟨Au, cu, rfl⟩ := own_slice hm13
  dsimp only [List.length_cons, List.length_nil] at hm13 ⊢
  rw [show outV ((0 : Int), (none : Option Int)) = .nilIface from rfl]
  have HG_20 := Lib.hid (HG_19.out.below hb13)
  have HB_20 := Lib.hid (HB_19.out.trans (hb13.mono HB_19.out.size))
  have Ma_20 := Lib.hid (Ma_19.out.below hb13)
  have Pa_20 := Lib.hid (Pa_19.out.below hb13 Pa_19.out.lt)
  have Mb_20 := Lib.hid (Mb_19.out.below hb13)
  have Pb_20 := Lib.hid (Pb_19.out.below hb13 Pb_19.out.lt)
  have Mc_20 := Lib.hid (Mc_19.out.below hb13)
  have Pc_20 := Lib.hid (Pc_19.out.below hb13 Pc_19.out.lt)
  have Md_20 := Lib.hid (Md_19.out.below hb13)
  have Pd_20 := Lib.hid (Pd_19.out.below hb13 Pd_19.out.lt)
  have Pxa_20 := Lib.hid (Pxa_19.out.below hb13 Pxa_19.out.lt)
  have Pxb_20 := Lib.hid (Pxb_19.out.below hb13 Pxb_19.out.lt)
  have Pxd_20 := Lib.hid (Pxd_19.out.below hb13 Pxd_19.out.lt)
  have Mu_20 := Lib.hid (hm13)
  clear hb13 hm13 hc13 HS12
  obtain ⟨gu, hgu⟩ : ∃ g, wo13.heap.size = g := ⟨_, rfl⟩
  obtain ⟨W21, hW21⟩ : ∃ X, wo13.alloc (.cells #[.int .i64 5, .slice Au 0 cu] 24) = X := ⟨_, rfl⟩
  have hbW21 : Below wo13.heap.size wo13 W21 := hW21 ▸ (Below.refl _ _).alloc (Nat.le_refl _) _
  have hnu : Blk W21 gu 24 #[.int .i64 5, .slice Au 0 cu] := by rw [← hW21]; exact blkNew hgu
  have HG_21 := Lib.hid (HG_20.out.below hbW21)
  have HB_21 := Lib.hid (HB_20.out.trans (hbW21.mono HB_20.out.size))
  have Ma_21 := Lib.hid (Ma_20.out.below hbW21)
  have Pa_21 := Lib.hid (Pa_20.out.below hbW21 Pa_20.out.lt)
  have Mb_21 := Lib.hid (Mb_20.out.below hbW21)
  have Pb_21 := Lib.hid (Pb_20.out.below hbW21 Pb_20.out.lt)
  have Mc_21 := Lib.hid (Mc_20.out.below hbW21)
  have Pc_21 := Lib.hid (Pc_20.out.below hbW21 Pc_20.out.lt)
  have Md_21 := Lib.hid (Md_20.out.below hbW21)
  have Pd_21 := Lib.hid (Pd_20.out.below hbW21 Pd_20.out.lt)
  have Pxa_21 := Lib.hid (Pxa_20.out.below hbW21 Pxa_20.out.lt)
  have Pxb_21 := Lib.hid (Pxb_20.out.below hbW21 Pxb_20.out.lt)
  have Pxd_21 := Lib.hid (Pxd_20.out.below hbW21 Pxd_20.out.lt)
  have Mu_21 := Lib.hid (Mu_20.out.below hbW21)
  have Pu_21 := Lib.hid (hnu)
  clear hbW21 hnu
  go_wp2_with (fail)
  refine (seven_calls (2) W21).mono ?_
  rintro e ws14 ⟨gs14, rfl, hr14, hb14⟩
  clear hW21 hgu
  have HG_22 := Lib.hid (HG_21.out.below hb14)
  have HB_22 := Lib.hid (HB_21.out.trans (hb14.mono HB_21.out.size))
  have Ma_22 := Lib.hid (Ma_21.out.below hb14)
  have Pa_22 := Lib.hid (Pa_21.out.below hb14 Pa_21.out.lt)
  have Mb_22 := Lib.hid (Mb_21.out.below hb14)
  have Pb_22 := Lib.hid (Pb_21.out.below hb14 Pb_21.out.lt)
  have Mc_22 := Lib.hid (Mc_21.out.below hb14)
  have Pc_22 := Lib.hid (Pc_21.out.below hb14 Pc_21.out.lt)
  have Md_22 := Lib.hid (Md_21.out.below hb14)
  have Pd_22 := Lib.hid (Pd_21.out.below hb14 Pd_21.out.lt)
  have Pxa_22 := Lib.hid (Pxa_21.out.below hb14 Pxa_21.out.lt)
  have Pxb_22 := Lib.hid (Pxb_21.out.below hb14 Pxb_21.out.lt)
  have Pxd_22 := Lib.hid (Pxd_21.out.below hb14 Pxd_21.out.lt)
  have Mu_22 := Lib.hid (Mu_21.out.below hb14)
  have Pu_22 := Lib.hid (Pu_21.out.below hb14 Pu_21.out.lt)
  have HS14 := Lib.hid hr14
  clear hr14 hb14
  go_wp2_with (fail)
  refine (unmark_calls (2) [⟨7, 3⟩] (some ⟨gs14, 0, none⟩) 1 ws14.heap.size 4 7 ws14 ⟨HS14.out, by decide, by simp, by simp⟩ (Nat.le_refl _) HG_22.out (by decide)).mono ?_
  rintro e wo15 ⟨hb15, v15, rfl, hm15⟩
  have hc15 : unmarkS 2 [⟨7, 3⟩] 4 7 = ⟨18, none, 0, []⟩ := rfl
  rw [hc15] at hm15 ⊢
  obtain ⟨Ae1, ce1, rfl⟩ := own_slice hm15
  dsimp only [List.length_cons, List.length_nil] at hm15 ⊢
  rw [show outV ((18 : Int), (none : Option Int)) = .iface 87 (.agg #[.iface 65 (.int .i64 18)]) from rfl]
  have HG_23 := Lib.hid (HG_22.out.below hb15)
  have HB_23 := Lib.hid (HB_22.out.trans (hb15.mono HB_22.out.size))
  have Ma_23 := Lib.hid (Ma_22.out.below hb15)
  have Pa_23 := Lib.hid (Pa_22.out.below hb15 Pa_22.out.lt)
  have Mb_23 := Lib.hid (Mb_22.out.below hb15)
  have Pb_23 := Lib.hid (Pb_22.out.below hb15 Pb_22.out.lt)
  have Mc_23 := Lib.hid (Mc_22.out.below hb15)
  have Pc_23 := Lib.hid (Pc_22.out.below hb15 Pc_22.out.lt)
  have Md_23 := Lib.hid (Md_22.out.below hb15)
  have Pd_23 := Lib.hid (Pd_22.out.below hb15 Pd_22.out.lt)
  have Pxa_23 := Lib.hid (Pxa_22.out.below hb15 Pxa_22.out.lt)
  have Pxb_23 := Lib.hid (Pxb_22.out.below hb15 Pxb_22.out.lt)
  have Pxd_23 := Lib.hid (Pxd_22.out.below hb15 Pxd_22.out.lt)
  have Mu_23 := Lib.hid (Mu_22.out.below hb15)
  have Pu_23 := Lib.hid (Pu_22.out.below hb15 Pu_22.out.lt)
  have Me1_23 := Lib.hid (hm15)
  clear hb15 hm15 hc15 HS14
  go_wp2_with (fail)
  refine (seven_calls (2) wo15).mono ?_
  rintro e ws16 ⟨gs16, rfl, hr16, hb16⟩
  have HG_24 := Lib.hid (HG_23.out.below hb16)
  have HB_24 := Lib.hid (HB_23.out.trans (hb16.mono HB_23.out.size))
  have Ma_24 := Lib.hid (Ma_23.out.below hb16)
  have Pa_24 := Lib.hid (Pa_23.out.below hb16 Pa_23.out.lt)
  have Mb_24 := Lib.hid (Mb_23.out.below hb16)
  have Pb_24 := Lib.hid (Pb_23.out.below hb16 Pb_23.out.lt)
  have Mc_24 := Lib.hid (Mc_23.out.below hb16)
  have Pc_24 := Lib.hid (Pc_23.out.below hb16 Pc_23.out.lt)
  have Md_24 := Lib.hid (Md_23.out.below hb16)
  have Pd_24 := Lib.hid (Pd_23.out.below hb16 Pd_23.out.lt)
  have Pxa_24 := Lib.hid (Pxa_23.out.below hb16 Pxa_23.out.lt)
  have Pxb_24 := Lib.hid (Pxb_23.out.below hb16 Pxb_23.out.lt)
  have Pxd_24 := Lib.hid (Pxd_23.out.below hb16 Pxd_23.out.lt)
  have Mu_24 := Lib.hid (Mu_23.out.below hb16)
  have Pu_24 := Lib.hid (Pu_23.out.below hb16 Pu_23.out.lt)
  have Me1_24 := Lib.hid (Me1_23.out.below hb16)
  have HS16 := Lib.hid hr16
  clear hr16 hb16
  go_wp2_with (fail)
  refine (unmark_calls (2) [⟨7, 3⟩] (some ⟨gs16, 0, none⟩) 1 ws16.heap.size 1 8 ws16 ⟨HS16.out, by decide, by simp, by simp⟩ (Nat.le_refl _) HG_24.out (by decide)).mono ?_
  rintro e wo17 ⟨hb17, v17, rfl, hm17⟩
  have hc17 : unmarkS 2 [⟨7, 3⟩] 1 8 = ⟨19, none, 0, []⟩ := rfl
  rw [hc17] at hm17 ⊢
  obtain ⟨Ae2, ce2, rfl⟩ := own_slice hm17
  dsimp only [List.length_cons, List.length_nil] at hm17 ⊢
  rw [show outV ((19 : Int), (none : Option Int)) = .iface 87 (.agg #[.iface 65 (.int .i64 19)]) from rfl]
  have HG_25 := Lib.hid (HG_24.out.below hb17)
  have HB_25 := Lib.hid (HB_24.out.trans (hb17.mono HB_24.out.size))
  have Ma_25 := Lib.hid (Ma_24.out.below hb17)
  have Pa_25 := Lib.hid (Pa_24.out.below hb17 Pa_24.out.lt)
  have Mb_25 := Lib.hid (Mb_24.out.below hb17)
  have Pb_25 := Lib.hid (Pb_24.out.below hb17 Pb_24.out.lt)
  have Mc_25 := Lib.hid (Mc_24.out.below hb17)
  have Pc_25 := Lib.hid (Pc_24.out.below hb17 Pc_24.out.lt)
  have Md_25 := Lib.hid (Md_24.out.below hb17)
  have Pd_25 := Lib.hid (Pd_24.out.below hb17 Pd_24.out.lt)
  have Pxa_25 := Lib.hid (Pxa_24.out.below hb17 Pxa_24.out.lt)
  have Pxb_25 := Lib.hid (Pxb_24.out.below hb17 Pxb_24.out.lt)
  have Pxd_25 := Lib.hid (Pxd_24.out.below hb17 Pxd_24.out.lt)
  have Mu_25 := Lib.hid (Mu_24.out.below hb17)
  have Pu_25 := Lib.hid (Pu_24.out.below hb17 Pu_24.out.lt)
  have Me1_25 := Lib.hid (Me1_24.out.below hb17)
  have Me2_25 := Lib.hid (hm17)
  clear hb17 hm17 hc17 HS16
  go_wp2_with (fail)
  refine (seven_calls (9223372036854775804) wo17).mono ?_
  rintro e ws18 ⟨gs18, rfl, hr18, hb18⟩
  have HG_26 := Lib.hid (HG_25.out.below hb18)
  have HB_26 := Lib.hid (HB_25.out.trans (hb18.mono HB_25.out.size))
  have Ma_26 := Lib.hid (Ma_25.out.below hb18)
  have Pa_26 := Lib.hid (Pa_25.out.below hb18 Pa_25.out.lt)
  have Mb_26 := Lib.hid (Mb_25.out.below hb18)
  have Pb_26 := Lib.hid (Pb_25.out.below hb18 Pb_25.out.lt)
  have Mc_26 := Lib.hid (Mc_25.out.below hb18)
  have Pc_26 := Lib.hid (Pc_25.out.below hb18 Pc_25.out.lt)
  have Md_26 := Lib.hid (Md_25.out.below hb18)
  have Pd_26 := Lib.hid (Pd_25.out.below hb18 Pd_25.out.lt)
  have Pxa_26 := Lib.hid (Pxa_25.out.below hb18 Pxa_25.out.lt)
  have Pxb_26 := Lib.hid (Pxb_25.out.below hb18 Pxb_25.out.lt)
  have Pxd_26 := Lib.hid (Pxd_25.out.below hb18 Pxd_25.out.lt)
  have Mu_26 := Lib.hid (Mu_25.out.below hb18)
  have Pu_26 := Lib.hid (Pu_25.out.below hb18 Pu_25.out.lt)
  have Me1_26 := Lib.hid (Me1_25.out.below hb18)
  have Me2_26 := Lib.hid (Me2_25.out.below hb18)
  have HS18 := Lib.hid hr18
  clear hr18 hb18
  go_wp2_with (fail)
  refine (credit_calls (9223372036854775804) [⟨7, 3⟩] (some ⟨gs18, 0, none⟩) 1 ws18.heap.size 1 ws18 ⟨HS18.out, by decide, by simp, by simp⟩ (Nat.le_refl _) HG_26.out (by decide)).mono ?_
  rintro e wo19 ⟨hb19, v19, rfl, hm19⟩
  have hc19 : creditS 9223372036854775804 [⟨7, 3⟩] 1 = ⟨9, none, 0, []⟩ := rfl
  rw [hc19] at hm19 ⊢
  obtain ⟨Ae3, ce3, rfl⟩ := own_slice hm19
  dsimp only [List.length_cons, List.length_nil] at hm19 ⊢
  rw [show outV ((9 : Int), (none : Option Int)) = .iface 87 (.agg #[.iface 65 (.int .i64 9)]) from rfl]
  have HG_27 := Lib.hid (HG_26.out.below hb19)
  have HB_27 := Lib.hid (HB_26.out.trans (hb19.mono HB_26.out.size))
  have Ma_27 := Lib.hid (Ma_26.out.below hb19)
  have Pa_27 := Lib.hid (Pa_26.out.below hb19 Pa_26.out.lt)
  have Mb_27 := Lib.hid (Mb_26.out.below hb19)
  have Pb_27 := Lib.hid (Pb_26.out.below hb19 Pb_26.out.lt)
  have Mc_27 := Lib.hid (Mc_26.out.below hb19)
  have Pc_27 := Lib.hid (Pc_26.out.below hb19 Pc_26.out.lt)
  have Md_27 := Lib.hid (Md_26.out.below hb19)
  have Pd_27 := Lib.hid (Pd_26.out.below hb19 Pd_26.out.lt)
  have Pxa_27 := Lib.hid (Pxa_26.out.below hb19 Pxa_26.out.lt)
  have Pxb_27 := Lib.hid (Pxb_26.out.below hb19 Pxb_26.out.lt)
  have Pxd_27 := Lib.hid (Pxd_26.out.below hb19 Pxd_26.out.lt)
  have Mu_27 := Lib.hid (Mu_26.out.below hb19)
  have Pu_27 := Lib.hid (Pu_26.out.below hb19 Pu_26.out.lt)
  have Me1_27 := Lib.hid (Me1_26.out.below hb19)
  have Me2_27 := Lib.hid (Me2_26.out.below hb19)
  have Me3_27 := Lib.hid (hm19)
  clear hb19 hm19 hc19 HS18
  have cPu0_27 : wo19.cell? ⟨gu, 0, none⟩ = some (.int .i64 5) := Pu_27.out.cell 0
  have cPu1_27 : wo19.cell? ⟨gu, 1, none⟩ = some (.slice Au 0 cu) := Pu_27.out.cell 1
  go_wp2_with (fail)
  refine (isP_calls (5) [] Au none cu 0 wo19.heap.size 0 wo19 (Reads.of_own Mu_27.out) (Nat.le_refl _) pairs0 rfl (by decide)).mono ?_
  rintro e wi20 ⟨rfl, hb20⟩
  clear cPu0_27 cPu1_27
  have HG_28 := Lib.hid (HG_27.out.below hb20)
  have HB_28 := Lib.hid (HB_27.out.trans (hb20.mono HB_27.out.size))
  have Ma_28 := Lib.hid (Ma_27.out.below hb20)
  have Pa_28 := Lib.hid (Pa_27.out.below hb20 Pa_27.out.lt)
  have Mb_28 := Lib.hid (Mb_27.out.below hb20)
  have Pb_28 := Lib.hid (Pb_27.out.below hb20 Pb_27.out.lt)
  have Mc_28 := Lib.hid (Mc_27.out.below hb20)
  have Pc_28 := Lib.hid (Pc_27.out.below hb20 Pc_27.out.lt)
  have Md_28 := Lib.hid (Md_27.out.below hb20)
  have Pd_28 := Lib.hid (Pd_27.out.below hb20 Pd_27.out.lt)
  have Pxa_28 := Lib.hid (Pxa_27.out.below hb20 Pxa_27.out.lt)
  have Pxb_28 := Lib.hid (Pxb_27.out.below hb20 Pxb_27.out.lt)
  have Pxd_28 := Lib.hid (Pxd_27.out.below hb20 Pxd_27.out.lt)
  have Mu_28 := Lib.hid (Mu_27.out.below hb20)
  have Pu_28 := Lib.hid (Pu_27.out.below hb20 Pu_27.out.lt)
  have Me1_28 := Lib.hid (Me1_27.out.below hb20)
  have Me2_28 := Lib.hid (Me2_27.out.below hb20)
  have Me3_28 := Lib.hid (Me3_27.out.below hb20)
  clear hb20
  go_wp2_with (fail)
  refine (plain_refused 18 18 wi20 (by decide) (by decide) HG_28.out).mono ?_
  rintro e wp21 ⟨rfl, hb21⟩
  rw [show ((18 : Int) == 18) = true from rfl]
  have HG_29 := Lib.hid (HG_28.out.below hb21)
  have HB_29 := Lib.hid (HB_28.out.trans (hb21.mono HB_28.out.size))
  have Ma_29 := Lib.hid (Ma_28.out.below hb21)
  have Pa_29 := Lib.hid (Pa_28.out.below hb21 Pa_28.out.lt)
  have Mb_29 := Lib.hid (Mb_28.out.below hb21)
  have Pb_29 := Lib.hid (Pb_28.out.below hb21 Pb_28.out.lt)
  have Mc_29 := Lib.hid (Mc_28.out.below hb21)
  have Pc_29 := Lib.hid (Pc_28.out.below hb21 Pc_28.out.lt)
  have Md_29 := Lib.hid (Md_28.out.below hb21)
  have Pd_29 := Lib.hid (Pd_28.out.below hb21 Pd_28.out.lt)
  have Pxa_29 := Lib.hid (Pxa_28.out.below hb21 Pxa_28.out.lt)
  have Pxb_29 := Lib.hid (Pxb_28.out.below hb21 Pxb_28.out.lt)
  have Pxd_29 := Lib.hid (Pxd_28.out.below hb21 Pxd_28.out.lt)
  have Mu_29 := Lib.hid (Mu_28.out.below hb21)
  have Pu_29 := Lib.hid (Pu_28.out.below hb21 Pu_28.out.lt)
  have Me1_29 := Lib.hid (Me1_28.out.below hb21)
  have Me2_29 := Lib.hid (Me2_28.out.below hb21)
  have Me3_29 := Lib.hid (Me3_28.out.below hb21)
  clear hb21
  go_wp2_with (fail)
  refine (plain_refused 19 19 wp21 (by decide) (by decide) HG_29.out).mono ?_
  rintro e wp22 ⟨rfl, hb22⟩
  rw [show ((19 : Int) == 19) = true from rfl]
  have HG_30 := Lib.hid (HG_29.out.below hb22)
  have HB_30 := Lib.hid (HB_29.out.trans (hb22.mono HB_29.out.size))
  have Ma_30 := Lib.hid (Ma_29.out.below hb22)
  have Pa_30 := Lib.hid (Pa_29.out.below hb22 Pa_29.out.lt)
  have Mb_30 := Lib.hid (Mb_29.out.below hb22)
  have Pb_30 := Lib.hid (Pb_29.out.below hb22 Pb_29.out.lt)
  have Mc_30 := Lib.hid (Mc_29.out.below hb22)
  have Pc_30 := Lib.hid (Pc_29.out.below hb22 Pc_29.out.lt)
  have Md_30 := Lib.hid (Md_29.out.below hb22)
  have Pd_30 := Lib.hid (Pd_29.out.below hb22 Pd_29.out.lt)
  have Pxa_30 := Lib.hid (Pxa_29.out.below hb22 Pxa_29.out.lt)
  have Pxb_30 := Lib.hid (Pxb_29.out.below hb22 Pxb_29.out.lt)
  have Pxd_30 := Lib.hid (Pxd_29.out.below hb22 Pxd_29.out.lt)
  have Mu_30 := Lib.hid (Mu_29.out.below hb22)
  have Pu_30 := Lib.hid (Pu_29.out.below hb22 Pu_29.out.lt)
  have Me1_30 := Lib.hid (Me1_29.out.below hb22)
  have Me2_30 := Lib.hid (Me2_29.out.below hb22)
  have Me3_30 := Lib.hid (Me3_29.out.below hb22)
  clear hb22
  go_wp2_with (fail)
  refine (plain_refused 9 9 wp22 (by decide) (by decide) HG_30.out).mono ?_
  rintro e wp23 ⟨rfl, hb23⟩
  rw [show ((9 : Int) == 9) = true from rfl]
  have HG_31 := Lib.hid (HG_30.out.below hb23)
  have HB_31 := Lib.hid (HB_30.out.trans (hb23.mono HB_30.out.size))
  have Ma_31 := Lib.hid (Ma_30.out.below hb23)
  have Pa_31 := Lib.hid (Pa_30.out.below hb23 Pa_30.out.lt)
  have Mb_31 := Lib.hid (Mb_30.out.below hb23)
  have Pb_31 := Lib.hid (Pb_30.out.below hb23 Pb_30.out.lt)
  have Mc_31 := Lib.hid (Mc_30.out.below hb23)
  have Pc_31 := Lib.hid (Pc_30.out.below hb23 Pc_30.out.lt)
  have Md_31 := Lib.hid (Md_30.out.below hb23)
  have Pd_31 := Lib.hid (Pd_30.out.below hb23 Pd_30.out.lt)
  have Pxa_31 := Lib.hid (Pxa_30.out.below hb23 Pxa_30.out.lt)
  have Pxb_31 := Lib.hid (Pxb_30.out.below hb23 Pxb_30.out.lt)
  have Pxd_31 := Lib.hid (Pxd_30.out.below hb23 Pxd_30.out.lt)
  have Mu_31 := Lib.hid (Mu_30.out.below hb23)
  have Pu_31 := Lib.hid (Pu_30.out.below hb23 Pu_30.out.lt)
  have Me1_31 := Lib.hid (Me1_30.out.below hb23)
  have Me2_31 := Lib.hid (Me2_30.out.below hb23)
  have Me3_31 := Lib.hid (Me3_30.out.below hb23)
  clear hb23
  obtain ⟨gk1, hgk1⟩ : ∃ g, wp23.heap.size = g := ⟨_, rfl⟩
  obtain ⟨W32, hW32⟩ : ∃ X, wp23.alloc (.cells #[.int .i64 7, .int .i64 1, .int .i64 7, .int .i64 1] 37) = X := ⟨_, rfl⟩
  have hbW32 : Below wp23.heap.size wp23 W32 := hW32 ▸ (Below.refl _ _).alloc (Nat.le_refl _) _
  have hnk1 : Blk W32 gk1 37 #[.int .i64 7, .int .i64 1, .int .i64 7, .int .i64 1] := by rw [← hW32]; exact blkNew hgk1
  have HG_32 := Lib.hid (HG_31.out.below hbW32)
  have HB_32 := Lib.hid (HB_31.out.trans (hbW32.mono HB_31.out.size))
  have Ma_32 := Lib.hid (Ma_31.out.below hbW32)
  have Pa_32 := Lib.hid (Pa_31.out.below hbW32 Pa_31.out.lt)
  have Mb_32 := Lib.hid (Mb_31.out.below hbW32)
  have Pb_32 := Lib.hid (Pb_31.out.below hbW32 Pb_31.out.lt)
  have Mc_32 := Lib.hid (Mc_31.out.below hbW32)
  have Pc_32 := Lib.hid (Pc_31.out.below hbW32 Pc_31.out.lt)
  have Md_32 := Lib.hid (Md_31.out.below hbW32)
  have Pd_32 := Lib.hid (Pd_31.out.below hbW32 Pd_31.out.lt)
  have Pxa_32 := Lib.hid (Pxa_31.out.below hbW32 Pxa_31.out.lt)
  have Pxb_32 := Lib.hid (Pxb_31.out.below hbW32 Pxb_31.out.lt)
  have Pxd_32 := Lib.hid (Pxd_31.out.below hbW32 Pxd_31.out.lt)
  have Mu_32 := Lib.hid (Mu_31.out.below hbW32)
  have Pu_32 := Lib.hid (Pu_31.out.below hbW32 Pu_31.out.lt)
  have Me1_32 := Lib.hid (Me1_31.out.below hbW32)
  have Me2_32 := Lib.hid (Me2_31.out.below hbW32)
  have Me3_32 := Lib.hid (Me3_31.out.below hbW32)
  have Pk1_32 := Lib.hid (hnk1)
  clear hbW32 hnk1
  go_wp2_with (fail)
  refine (check_calls (0) [⟨7, 1⟩, ⟨7, 1⟩] (some ⟨gk1, 0, none⟩) 2 W32.heap.size W32 ⟨reads_blk (cs := [.int .i64 7, .int .i64 1, .int .i64 7, .int .i64 1]) Pk1_32.out rfl, by decide, by simp, by simp⟩ (Nat.le_refl _) HG_32.out).mono ?_
  rintro e wc24 ⟨rfl, hb24⟩
  rw [show outV (chk (0) [⟨7, 1⟩, ⟨7, 1⟩]) = .iface 78 (.agg #[.int .i64 1, .int .i64 0, .int .i64 1]) from rfl]
  clear hW32 hgk1
  have HG_33 := Lib.hid (HG_32.out.below hb24)
  have HB_33 := Lib.hid (HB_32.out.trans (hb24.mono HB_32.out.size))
  have Ma_33 := Lib.hid (Ma_32.out.below hb24)
  have Pa_33 := Lib.hid (Pa_32.out.below hb24 Pa_32.out.lt)
  have Mb_33 := Lib.hid (Mb_32.out.below hb24)
  have Pb_33 := Lib.hid (Pb_32.out.below hb24 Pb_32.out.lt)
  have Mc_33 := Lib.hid (Mc_32.out.below hb24)
  have Pc_33 := Lib.hid (Pc_32.out.below hb24 Pc_32.out.lt)
  have Md_33 := Lib.hid (Md_32.out.below hb24)
  have Pd_33 := Lib.hid (Pd_32.out.below hb24 Pd_32.out.lt)
  have Pxa_33 := Lib.hid (Pxa_32.out.below hb24 Pxa_32.out.lt)
  have Pxb_33 := Lib.hid (Pxb_32.out.below hb24 Pxb_32.out.lt)
  have Pxd_33 := Lib.hid (Pxd_32.out.below hb24 Pxd_32.out.lt)
  have Mu_33 := Lib.hid (Mu_32.out.below hb24)
  have Pu_33 := Lib.hid (Pu_32.out.below hb24 Pu_32.out.lt)
  have Me1_33 := Lib.hid (Me1_32.out.below hb24)
  have Me2_33 := Lib.hid (Me2_32.out.below hb24)
  have Me3_33 := Lib.hid (Me3_32.out.below hb24)
  have Pk1_33 := Lib.hid (Pk1_32.out.below hb24 Pk1_32.out.lt)
  clear hb24
  obtain ⟨gk2, hgk2⟩ : ∃ g, wc24.heap.size = g := ⟨_, rfl⟩
  obtain ⟨W34, hW34⟩ : ∃ X, wc24.alloc (.cells #[.int .i64 0, .int .i64 0] 37) = X := ⟨_, rfl⟩
  have hbW34 : Below wc24.heap.size wc24 W34 := hW34 ▸ (Below.refl _ _).alloc (Nat.le_refl _) _
  have hnk2 : Blk W34 gk2 37 #[.int .i64 0, .int .i64 0] := by rw [← hW34]; exact blkNew hgk2
  have HG_34 := Lib.hid (HG_33.out.below hbW34)
  have HB_34 := Lib.hid (HB_33.out.trans (hbW34.mono HB_33.out.size))
  have Ma_34 := Lib.hid (Ma_33.out.below hbW34)
  have Pa_34 := Lib.hid (Pa_33.out.below hbW34 Pa_33.out.lt)
  have Mb_34 := Lib.hid (Mb_33.out.below hbW34)
  have Pb_34 := Lib.hid (Pb_33.out.below hbW34 Pb_33.out.lt)
  have Mc_34 := Lib.hid (Mc_33.out.below hbW34)
  have Pc_34 := Lib.hid (Pc_33.out.below hbW34 Pc_33.out.lt)
  have Md_34 := Lib.hid (Md_33.out.below hbW34)
  have Pd_34 := Lib.hid (Pd_33.out.below hbW34 Pd_33.out.lt)
  have Pxa_34 := Lib.hid (Pxa_33.out.below hbW34 Pxa_33.out.lt)
  have Pxb_34 := Lib.hid (Pxb_33.out.below hbW34 Pxb_33.out.lt)
  have Pxd_34 := Lib.hid (Pxd_33.out.below hbW34 Pxd_33.out.lt)
  have Mu_34 := Lib.hid (Mu_33.out.below hbW34)
  have Pu_34 := Lib.hid (Pu_33.out.below hbW34 Pu_33.out.lt)
  have Me1_34 := Lib.hid (Me1_33.out.below hbW34)
  have Me2_34 := Lib.hid (Me2_33.out.below hbW34)
  have Me3_34 := Lib.hid (Me3_33.out.below hbW34)
  have Pk1_34 := Lib.hid (Pk1_33.out.below hbW34 Pk1_33.out.lt)
  have Pk2_34 := Lib.hid (hnk2)
  clear hbW34 hnk2
  go_wp2_with (fail)
  refine (check_calls (-1) [⟨0, 0⟩] (some ⟨gk2, 0, none⟩) 1 W34.heap.size W34 ⟨reads_blk (cs := [.int .i64 0, .int .i64 0]) Pk2_34.out rfl, by decide, by simp, by simp⟩ (Nat.le_refl _) HG_34.out).mono ?_
  rintro e wc25 ⟨rfl, hb25⟩
  rw [show outV (chk (-1) [⟨0, 0⟩]) = .iface 78 (.agg #[.int .i64 1, .int .i64 0, .int .i64 (-1)]) from rfl]
  clear hW34 hgk2
  have HG_35 := Lib.hid (HG_34.out.below hb25)
  have HB_35 := Lib.hid (HB_34.out.trans (hb25.mono HB_34.out.size))
  have Ma_35 := Lib.hid (Ma_34.out.below hb25)
  have Pa_35 := Lib.hid (Pa_34.out.below hb25 Pa_34.out.lt)
  have Mb_35 := Lib.hid (Mb_34.out.below hb25)
  have Pb_35 := Lib.hid (Pb_34.out.below hb25 Pb_34.out.lt)
  have Mc_35 := Lib.hid (Mc_34.out.below hb25)
  have Pc_35 := Lib.hid (Pc_34.out.below hb25 Pc_34.out.lt)
  have Md_35 := Lib.hid (Md_34.out.below hb25)
  have Pd_35 := Lib.hid (Pd_34.out.below hb25 Pd_34.out.lt)
  have Pxa_35 := Lib.hid (Pxa_34.out.below hb25 Pxa_34.out.lt)
  have Pxb_35 := Lib.hid (Pxb_34.out.below hb25 Pxb_34.out.lt)
  have Pxd_35 := Lib.hid (Pxd_34.out.below hb25 Pxd_34.out.lt)
  have Mu_35 := Lib.hid (Mu_34.out.below hb25)
  have Pu_35 := Lib.hid (Pu_34.out.below hb25 Pu_34.out.lt)
  have Me1_35 := Lib.hid (Me1_34.out.below hb25)
  have Me2_35 := Lib.hid (Me2_34.out.below hb25)
  have Me3_35 := Lib.hid (Me3_34.out.below hb25)
  have Pk1_35 := Lib.hid (Pk1_34.out.below hb25 Pk1_34.out.lt)
  have Pk2_35 := Lib.hid (Pk2_34.out.below hb25 Pk2_34.out.lt)
  clear hb25
  go_wp2_with (fail)
  refine (at_fault 1 0 1 wc25 (by decide) (by decide) HG_35.out).mono ?_
  rintro e wf26 ⟨rfl, hb26⟩
  have HG_36 := Lib.hid (HG_35.out.below hb26)
  have HB_36 := Lib.hid (HB_35.out.trans (hb26.mono HB_35.out.size))
  have Ma_36 := Lib.hid (Ma_35.out.below hb26)
  have Pa_36 := Lib.hid (Pa_35.out.below hb26 Pa_35.out.lt)
  have Mb_36 := Lib.hid (Mb_35.out.below hb26)
  have Pb_36 := Lib.hid (Pb_35.out.below hb26 Pb_35.out.lt)
  have Mc_36 := Lib.hid (Mc_35.out.below hb26)
  have Pc_36 := Lib.hid (Pc_35.out.below hb26 Pc_35.out.lt)
  have Md_36 := Lib.hid (Md_35.out.below hb26)
  have Pd_36 := Lib.hid (Pd_35.out.below hb26 Pd_35.out.lt)
  have Pxa_36 := Lib.hid (Pxa_35.out.below hb26 Pxa_35.out.lt)
  have Pxb_36 := Lib.hid (Pxb_35.out.below hb26 Pxb_35.out.lt)
  have Pxd_36 := Lib.hid (Pxd_35.out.below hb26 Pxd_35.out.lt)
  have Mu_36 := Lib.hid (Mu_35.out.below hb26)
  have Pu_36 := Lib.hid (Pu_35.out.below hb26 Pu_35.out.lt)
  have Me1_36 := Lib.hid (Me1_35.out.below hb26)
  have Me2_36 := Lib.hid (Me2_35.out.below hb26)
  have Me3_36 := Lib.hid (Me3_35.out.below hb26)
  have Pk1_36 := Lib.hid (Pk1_35.out.below hb26 Pk1_35.out.lt)
  have Pk2_36 := Lib.hid (Pk2_35.out.below hb26 Pk2_35.out.lt)
  clear hb26
  go_wp2_with (fail)
  refine (at_fault 1 0 (-1) wf26 (by decide) (by decide) HG_36.out).mono ?_
  rintro e wf27 ⟨rfl, hb27⟩
  have HG_37 := Lib.hid (HG_36.out.below hb27)
  have HB_37 := Lib.hid (HB_36.out.trans (hb27.mono HB_36.out.size))
  have Ma_37 := Lib.hid (Ma_36.out.below hb27)
  have Pa_37 := Lib.hid (Pa_36.out.below hb27 Pa_36.out.lt)
  have Mb_37 := Lib.hid (Mb_36.out.below hb27)
  have Pb_37 := Lib.hid (Pb_36.out.below hb27 Pb_36.out.lt)
  have Mc_37 := Lib.hid (Mc_36.out.below hb27)
  have Pc_37 := Lib.hid (Pc_36.out.below hb27 Pc_36.out.lt)
  have Md_37 := Lib.hid (Md_36.out.below hb27)
  have Pd_37 := Lib.hid (Pd_36.out.below hb27 Pd_36.out.lt)
  have Pxa_37 := Lib.hid (Pxa_36.out.below hb27 Pxa_36.out.lt)
  have Pxb_37 := Lib.hid (Pxb_36.out.below hb27 Pxb_36.out.lt)
  have Pxd_37 := Lib.hid (Pxd_36.out.below hb27 Pxd_36.out.lt)
  have Mu_37 := Lib.hid (Mu_36.out.below hb27)
  have Pu_37 := Lib.hid (Pu_36.out.below hb27 Pu_36.out.lt)
  have Me1_37 := Lib.hid (Me1_36.out.below hb27)
  have Me2_37 := Lib.hid (Me2_36.out.below hb27)
  have Me3_37 := Lib.hid (Me3_36.out.below hb27)
  have Pk1_37 := Lib.hid (Pk1_36.out.below hb27 Pk1_36.out.lt)
  have Pk2_37 := Lib.hid (Pk2_36.out.below hb27 Pk2_36.out.lt)
  clear hb27
  go_wp2_with (fail)
  refine (seven_calls (2) wf27).mono ?_
  rintro e ws28 ⟨gs28, rfl, hr28, hb28⟩
  have HG_38 := Lib.hid (HG_37.out.below hb28)
  have HB_38 := Lib.hid (HB_37.out.trans (hb28.mono HB_37.out.size))
  have Ma_38 := Lib.hid (Ma_37.out.below hb28)
  have Pa_38 := Lib.hid (Pa_37.out.below hb28 Pa_37.out.lt)
  have Mb_38 := Lib.hid (Mb_37.out.below hb28)
  have Pb_38 := Lib.hid (Pb_37.out.below hb28 Pb_37.out.lt)
  have Mc_38 := Lib.hid (Mc_37.out.below hb28)
  have Pc_38 := Lib.hid (Pc_37.out.below hb28 Pc_37.out.lt)
  have Md_38 := Lib.hid (Md_37.out.below hb28)
  have Pd_38 := Lib.hid (Pd_37.out.below hb28 Pd_37.out.lt)
  have Pxa_38 := Lib.hid (Pxa_37.out.below hb28 Pxa_37.out.lt)
  have Pxb_38 := Lib.hid (Pxb_37.out.below hb28 Pxb_37.out.lt)
  have Pxd_38 := Lib.hid (Pxd_37.out.below hb28 Pxd_37.out.lt)
  have Mu_38 := Lib.hid (Mu_37.out.below hb28)
  have Pu_38 := Lib.hid (Pu_37.out.below hb28 Pu_37.out.lt)
  have Me1_38 := Lib.hid (Me1_37.out.below hb28)
  have Me2_38 := Lib.hid (Me2_37.out.below hb28)
  have Me3_38 := Lib.hid (Me3_37.out.below hb28)
  have Pk1_38 := Lib.hid (Pk1_37.out.below hb28 Pk1_37.out.lt)
  have Pk2_38 := Lib.hid (Pk2_37.out.below hb28 Pk2_37.out.lt)
  have HS28 := Lib.hid hr28
  clear hr28 hb28
  go_wp2_with (fail)
  refine (cover_calls (2) [⟨7, 3⟩] (some ⟨gs28, 0, none⟩) 1 ws28.heap.size 7 ws28 ⟨HS28.out, by decide, by simp, by simp⟩ (Nat.le_refl _)).mono ?_
  rintro e wn29 ⟨rfl, hb29⟩
  rw [show coverS 2 [⟨7, 3⟩] 7 = 5 from rfl]
  have HG_39 := Lib.hid (HG_38.out.below hb29)
  have HB_39 := Lib.hid (HB_38.out.trans (hb29.mono HB_38.out.size))
  have Ma_39 := Lib.hid (Ma_38.out.below hb29)
  have Pa_39 := Lib.hid (Pa_38.out.below hb29 Pa_38.out.lt)
  have Mb_39 := Lib.hid (Mb_38.out.below hb29)
  have Pb_39 := Lib.hid (Pb_38.out.below hb29 Pb_38.out.lt)
  have Mc_39 := Lib.hid (Mc_38.out.below hb29)
  have Pc_39 := Lib.hid (Pc_38.out.below hb29 Pc_38.out.lt)
  have Md_39 := Lib.hid (Md_38.out.below hb29)
  have Pd_39 := Lib.hid (Pd_38.out.below hb29 Pd_38.out.lt)
  have Pxa_39 := Lib.hid (Pxa_38.out.below hb29 Pxa_38.out.lt)
  have Pxb_39 := Lib.hid (Pxb_38.out.below hb29 Pxb_38.out.lt)
  have Pxd_39 := Lib.hid (Pxd_38.out.below hb29 Pxd_38.out.lt)
  have Mu_39 := Lib.hid (Mu_38.out.below hb29)
  have Pu_39 := Lib.hid (Pu_38.out.below hb29 Pu_38.out.lt)
  have Me1_39 := Lib.hid (Me1_38.out.below hb29)
  have Me2_39 := Lib.hid (Me2_38.out.below hb29)
  have Me3_39 := Lib.hid (Me3_38.out.below hb29)
  have Pk1_39 := Lib.hid (Pk1_38.out.below hb29 Pk1_38.out.lt)
  have Pk2_39 := Lib.hid (Pk2_38.out.below hb29 Pk2_38.out.lt)
  clear hb29 HS28
  go_wp2_with (fail)
  refine (seven_calls (2) wn29).mono ?_
  rintro e ws30 ⟨gs30, rfl, hr30, hb30⟩
  have HG_40 := Lib.hid (HG_39.out.below hb30)
  have HB_40 := Lib.hid (HB_39.out.trans (hb30.mono HB_39.out.size))
  have Ma_40 := Lib.hid (Ma_39.out.below hb30)
  have Pa_40 := Lib.hid (Pa_39.out.below hb30 Pa_39.out.lt)
  have Mb_40 := Lib.hid (Mb_39.out.below hb30)
  have Pb_40 := Lib.hid (Pb_39.out.below hb30 Pb_39.out.lt)
  have Mc_40 := Lib.hid (Mc_39.out.below hb30)
  have Pc_40 := Lib.hid (Pc_39.out.below hb30 Pc_39.out.lt)
  have Md_40 := Lib.hid (Md_39.out.below hb30)
  have Pd_40 := Lib.hid (Pd_39.out.below hb30 Pd_39.out.lt)
  have Pxa_40 := Lib.hid (Pxa_39.out.below hb30 Pxa_39.out.lt)
  have Pxb_40 := Lib.hid (Pxb_39.out.below hb30 Pxb_39.out.lt)
  have Pxd_40 := Lib.hid (Pxd_39.out.below hb30 Pxd_39.out.lt)
  have Mu_40 := Lib.hid (Mu_39.out.below hb30)
  have Pu_40 := Lib.hid (Pu_39.out.below hb30 Pu_39.out.lt)
  have Me1_40 := Lib.hid (Me1_39.out.below hb30)
  have Me2_40 := Lib.hid (Me2_39.out.below hb30)
  have Me3_40 := Lib.hid (Me3_39.out.below hb30)
  have Pk1_40 := Lib.hid (Pk1_39.out.below hb30 Pk1_39.out.lt)
  have Pk2_40 := Lib.hid (Pk2_39.out.below hb30 Pk2_39.out.lt)
  have HS30 := Lib.hid hr30
  clear hr30 hb30
  go_wp2_with (fail)
  refine (marked_calls (2) [⟨7, 3⟩] (some ⟨gs30, 0, none⟩) 1 ws30.heap.size 8 ws30 ⟨HS30.out, by decide, by simp, by simp⟩ (Nat.le_refl _)).mono ?_
  rintro e wn31 ⟨rfl, hb31⟩
  rw [show markedS 2 [⟨7, 3⟩] 8 = 0 from rfl]
  have HG_41 := Lib.hid (HG_40.out.below hb31)
  have HB_41 := Lib.hid (HB_40.out.trans (hb31.mono HB_40.out.size))
  have Ma_41 := Lib.hid (Ma_40.out.below hb31)
  have Pa_41 := Lib.hid (Pa_40.out.below hb31 Pa_40.out.lt)
  have Mb_41 := Lib.hid (Mb_40.out.below hb31)
  have Pb_41 := Lib.hid (Pb_40.out.below hb31 Pb_40.out.lt)
  have Mc_41 := Lib.hid (Mc_40.out.below hb31)
  have Pc_41 := Lib.hid (Pc_40.out.below hb31 Pc_40.out.lt)
  have Md_41 := Lib.hid (Md_40.out.below hb31)
  have Pd_41 := Lib.hid (Pd_40.out.below hb31 Pd_40.out.lt)
  have Pxa_41 := Lib.hid (Pxa_40.out.below hb31 Pxa_40.out.lt)
  have Pxb_41 := Lib.hid (Pxb_40.out.below hb31 Pxb_40.out.lt)
  have Pxd_41 := Lib.hid (Pxd_40.out.below hb31 Pxd_40.out.lt)
  have Mu_41 := Lib.hid (Mu_40.out.below hb31)
  have Pu_41 := Lib.hid (Pu_40.out.below hb31 Pu_40.out.lt)
  have Me1_41 := Lib.hid (Me1_40.out.below hb31)
  have Me2_41 := Lib.hid (Me2_40.out.below hb31)
  have Me3_41 := Lib.hid (Me3_40.out.below hb31)
  have Pk1_41 := Lib.hid (Pk1_40.out.below hb31 Pk1_40.out.lt)
  have Pk2_41 := Lib.hid (Pk2_40.out.below hb31 Pk2_40.out.lt)
  clear hb31 HS30
  go_wp2_with (fail)
  refine (works_calls wn31 HG_41.out).mono ?_
  rintro e wz ⟨rfl, hbz⟩
  have HG_42 := Lib.hid (HG_41.out.below hbz)
  have HB_42 := Lib.hid (HB_41.out.trans (hbz.mono HB_41.out.size))
  have Ma_42 := Lib.hid (Ma_41.out.below hbz)
  have Pa_42 := Lib.hid (Pa_41.out.below hbz Pa_41.out.lt)
  have Mb_42 := Lib.hid (Mb_41.out.below hbz)
  have Pb_42 := Lib.hid (Pb_41.out.below hbz Pb_41.out.lt)
  have Mc_42 := Lib.hid (Mc_41.out.below hbz)
  have Pc_42 := Lib.hid (Pc_41.out.below hbz Pc_41.out.lt)
  have Md_42 := Lib.hid (Md_41.out.below hbz)
  have Pd_42 := Lib.hid (Pd_41.out.below hbz Pd_41.out.lt)
  have Pxa_42 := Lib.hid (Pxa_41.out.below hbz Pxa_41.out.lt)
  have Pxb_42 := Lib.hid (Pxb_41.out.below hbz Pxb_41.out.lt)
  have Pxd_42 := Lib.hid (Pxd_41.out.below hbz Pxd_41.out.lt)
  have Mu_42 := Lib.hid (Mu_41.out.below hbz)
  have Pu_42 := Lib.hid (Pu_41.out.below hbz Pu_41.out.lt)
  have Me1_42 := Lib.hid (Me1_41.out.below hbz)
  have Me2_42 := Lib.hid (Me2_41.out.below hbz)
  have Me3_42 := Lib.hid (Me3_41.out.below hbz)
  have Pk1_42 := Lib.hid (Pk1_41.out.below hbz Pk1_41.out.lt)
  have Pk2_42 := Lib.hid (Pk2_41.out.below hbz Pk2_41.out.lt)
  go_wp2_with (fail)
  go_ret
  exact ⟨rfl, HB_42.out⟩
end Go.Proofs.YtcgcgekefhhjhaaDoor
