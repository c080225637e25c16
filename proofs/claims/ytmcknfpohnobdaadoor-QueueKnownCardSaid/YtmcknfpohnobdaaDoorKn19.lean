/- QueueKnown: its walk (printed by gen_kn19.py). -/
import Derived.Test.YtmcknfpohnobdaaDoorKm19
namespace Go.Proofs.YtmcknfpohnobdaaDoor
open Go.RowKit Go.MapKept Go.ChangeMaps Go.Maps
set_option linter.unusedVariables false
set_option linter.unusedSimpArgs false

theorem newQ_QB (w : World) (r : Int) : Calls Tryd.prog 5 #[.int .i64 r] w fun e w' => ∃ p, e = .returned (.pointer (some ⟨p, 0, none⟩)) ∧ QB w w' p (roomQ r) [] := by
  refine (newQ_calls r w).mono ?_
  rintro e w1 ⟨p, bi, bw, rfl, hQ, hB, hO⟩
  exact ⟨p, rfl, bi, bw, 0, _, [], hQ, hO, hB⟩
theorem ints_lit (w : World) (l : List Int) (cs : Array Value) (hcs : cs.toList = intsC l) : Reads (w.alloc (.cells cs 3)) (w.alloc (.cells cs 3)).heap.size 1 (some ⟨w.heap.size, 0, none⟩) l.length (intsC l) := by
  have h := Blk.new w 3 cs
  refine ⟨flat_length Int.len l, fun _ => ⟨_, rfl, h.lt, fun j u hu => ?_⟩⟩
  rw [row_add0_, h.cell, ← hu, ← hcs]
  simp
theorem errV20 : errV 20 = .iface 73 (.int .i64 20) := errV_pos (by decide)
theorem errV11 : errV 11 = .iface 73 (.int .i64 11) := errV_pos (by decide)

def scriptK (h : Nat) : List OpQ := [⟨0, 0, 7, some ⟨h, 0, none⟩, [⟨1, 0⟩, ⟨0, 1⟩], 2⟩, ⟨0, 0, 7, some ⟨h + 1, 0, none⟩, [⟨1, 1⟩], 1⟩, ⟨0, 0, 5, some ⟨h + 2, 0, none⟩, [⟨0, 1⟩], 1⟩, ⟨0, 0, 9, some ⟨h + 3, 0, none⟩, [⟨1, 1⟩], 1⟩, ⟨0, 0, 1, some ⟨h + 4, 0, none⟩, [⟨1, 0⟩], 1⟩, ⟨0, 0, 7, none, [], 0⟩, ⟨0, 2, 0, none, [], 0⟩, ⟨0, 1, 0, none, [], 0⟩, ⟨0, 1, 0, some ⟨h + 5, 0, none⟩, [⟨0, 1⟩], 1⟩, ⟨0, 1, 0, some ⟨h + 6, 0, none⟩, [⟨0, 1⟩, ⟨1, 0⟩], 2⟩, ⟨0, 7, 0, none, [], 0⟩, ⟨0, 6, 0, none, [], 0⟩, ⟨0, 2, 0, none, [], 0⟩, ⟨0, 1, 0, some ⟨h + 7, 0, none⟩, [⟨1, 0⟩, ⟨1, 1⟩], 2⟩, ⟨0, 7, 0, none, [], 0⟩, ⟨0, 3, 7, none, [], 0⟩, ⟨0, 3, 7, none, [], 0⟩, ⟨0, 3, 5, none, [], 0⟩, ⟨0, 2, 0, none, [], 0⟩, ⟨0, 2, 0, none, [], 0⟩, ⟨0, 3, 7, none, [], 0⟩, ⟨0, 2, 0, none, [], 0⟩, ⟨0, 2, 0, none, [], 0⟩, ⟨0, 4, 5, none, [], 0⟩, ⟨0, 3, 5, none, [], 0⟩, ⟨0, 4, 5, none, [], 0⟩, ⟨0, 0, 5, some ⟨h + 8, 0, none⟩, [⟨1, 0⟩], 1⟩, ⟨0, 6, 0, none, [], 0⟩, ⟨0, 5, 0, none, [], 0⟩, ⟨0, 1, 0, some ⟨h + 9, 0, none⟩, [⟨1, 0⟩], 1⟩, ⟨0, 7, 0, none, [], 0⟩, ⟨0, 4, 9, none, [], 0⟩, ⟨0, 4, 8, none, [], 0⟩, ⟨0, 5, 0, none, [], 0⟩, ⟨0, 0, 0, none, [], 0⟩, ⟨0, 0, (-9223372036854775808), none, [], 0⟩, ⟨0, 4, 0, none, [], 0⟩]
set_option maxRecDepth 100000 in
theorem scriptK_at {w : World} {h : Nat} (b0 : Blk w h 48 #[.int .i64 1, .int .i64 0, .int .i64 0, .int .i64 1]) (b1 : Blk w (h + 1) 48 #[.int .i64 1, .int .i64 1]) (b2 : Blk w (h + 2) 48 #[.int .i64 0, .int .i64 1]) (b3 : Blk w (h + 3) 48 #[.int .i64 1, .int .i64 1]) (b4 : Blk w (h + 4) 48 #[.int .i64 1, .int .i64 0]) (b5 : Blk w (h + 5) 48 #[.int .i64 0, .int .i64 1]) (b6 : Blk w (h + 6) 48 #[.int .i64 0, .int .i64 1, .int .i64 1, .int .i64 0]) (b7 : Blk w (h + 7) 48 #[.int .i64 1, .int .i64 0, .int .i64 1, .int .i64 1]) (b8 : Blk w (h + 8) 48 #[.int .i64 1, .int .i64 0]) (b9 : Blk w (h + 9) 48 #[.int .i64 1, .int .i64 0]) (g : Blk w (h + 10) 33 ((scriptK h).flatMap OpQ.cs).toArray) : Scp w (some ⟨h + 10, 0, none⟩) (scriptK h) := by
  refine ⟨⟨flat_length OpQ.len _, fun _ => ⟨_, rfl, g.lt, fun j u hu => ?_⟩⟩, ?_, by show 37 ≤ 1000000; decide⟩
  · rw [row_add0_, g.cell, ← hu]
    simp
  · exact (List.forall_mem_cons.2 ⟨kat_blk _ _ _ (by rfl) (b0 : Blk w h 48 #[.int .i64 1, .int .i64 0, .int .i64 0, .int .i64 1]) rfl (by decide),
    (List.forall_mem_cons.2 ⟨kat_blk _ _ _ (by rfl) (b1 : Blk w (h + 1) 48 #[.int .i64 1, .int .i64 1]) rfl (by decide),
    (List.forall_mem_cons.2 ⟨kat_blk _ _ _ (by rfl) (b2 : Blk w (h + 2) 48 #[.int .i64 0, .int .i64 1]) rfl (by decide),
    (List.forall_mem_cons.2 ⟨kat_blk _ _ _ (by rfl) (b3 : Blk w (h + 3) 48 #[.int .i64 1, .int .i64 1]) rfl (by decide),
    (List.forall_mem_cons.2 ⟨kat_blk _ _ _ (by rfl) (b4 : Blk w (h + 4) 48 #[.int .i64 1, .int .i64 0]) rfl (by decide),
    (List.forall_mem_cons.2 ⟨kat_none _ _ _ (by rfl),
    (List.forall_mem_cons.2 ⟨kat_none _ _ _ (by rfl),
    (List.forall_mem_cons.2 ⟨kat_none _ _ _ (by rfl),
    (List.forall_mem_cons.2 ⟨kat_blk _ _ _ (by rfl) (b5 : Blk w (h + 5) 48 #[.int .i64 0, .int .i64 1]) rfl (by decide),
    (List.forall_mem_cons.2 ⟨kat_blk _ _ _ (by rfl) (b6 : Blk w (h + 6) 48 #[.int .i64 0, .int .i64 1, .int .i64 1, .int .i64 0]) rfl (by decide),
    (List.forall_mem_cons.2 ⟨kat_none _ _ _ (by rfl),
    (List.forall_mem_cons.2 ⟨kat_none _ _ _ (by rfl),
    (List.forall_mem_cons.2 ⟨kat_none _ _ _ (by rfl),
    (List.forall_mem_cons.2 ⟨kat_blk _ _ _ (by rfl) (b7 : Blk w (h + 7) 48 #[.int .i64 1, .int .i64 0, .int .i64 1, .int .i64 1]) rfl (by decide),
    (List.forall_mem_cons.2 ⟨kat_none _ _ _ (by rfl),
    (List.forall_mem_cons.2 ⟨kat_none _ _ _ (by rfl),
    (List.forall_mem_cons.2 ⟨kat_none _ _ _ (by rfl),
    (List.forall_mem_cons.2 ⟨kat_none _ _ _ (by rfl),
    (List.forall_mem_cons.2 ⟨kat_none _ _ _ (by rfl),
    (List.forall_mem_cons.2 ⟨kat_none _ _ _ (by rfl),
    (List.forall_mem_cons.2 ⟨kat_none _ _ _ (by rfl),
    (List.forall_mem_cons.2 ⟨kat_none _ _ _ (by rfl),
    (List.forall_mem_cons.2 ⟨kat_none _ _ _ (by rfl),
    (List.forall_mem_cons.2 ⟨kat_none _ _ _ (by rfl),
    (List.forall_mem_cons.2 ⟨kat_none _ _ _ (by rfl),
    (List.forall_mem_cons.2 ⟨kat_none _ _ _ (by rfl),
    (List.forall_mem_cons.2 ⟨kat_blk _ _ _ (by rfl) (b8 : Blk w (h + 8) 48 #[.int .i64 1, .int .i64 0]) rfl (by decide),
    (List.forall_mem_cons.2 ⟨kat_none _ _ _ (by rfl),
    (List.forall_mem_cons.2 ⟨kat_none _ _ _ (by rfl),
    (List.forall_mem_cons.2 ⟨kat_blk _ _ _ (by rfl) (b9 : Blk w (h + 9) 48 #[.int .i64 1, .int .i64 0]) rfl (by decide),
    (List.forall_mem_cons.2 ⟨kat_none _ _ _ (by rfl),
    (List.forall_mem_cons.2 ⟨kat_none _ _ _ (by rfl),
    (List.forall_mem_cons.2 ⟨kat_none _ _ _ (by rfl),
    (List.forall_mem_cons.2 ⟨kat_none _ _ _ (by rfl),
    (List.forall_mem_cons.2 ⟨kat_none _ _ _ (by rfl),
    (List.forall_mem_cons.2 ⟨kat_none _ _ _ (by rfl),
    (List.forall_mem_cons.2 ⟨kat_none _ _ _ (by rfl),
    (fun _ h => by cases h)⟩)⟩)⟩)⟩)⟩)⟩)⟩)⟩)⟩)⟩)⟩)⟩)⟩)⟩)⟩)⟩)⟩)⟩)⟩)⟩)⟩)⟩)⟩)⟩)⟩)⟩)⟩)⟩)⟩)⟩)⟩)⟩)⟩)⟩)⟩)⟩)⟩)
set_option maxRecDepth 100000 in
set_option maxHeartbeats 16000000 in
theorem lawKnown_calls (w0 : World) (hG : HG w0) : Calls Tryd.prog 4 #[] w0 fun e w' => e = .returned (.bool true) ∧ Below w0.heap.size w0 w' := by
  obtain ⟨ga, hga⟩ : ∃ g, w0.heap.size = g := ⟨_, rfl⟩
  obtain ⟨gb, hgb⟩ : ∃ g, ga + 1 = g := ⟨_, rfl⟩
  obtain ⟨gc, hgc⟩ : ∃ g, gb + 1 = g := ⟨_, rfl⟩
  obtain ⟨W3, hW3⟩ : ∃ X, ((w0.alloc (.cells #[.int .i64 1, .int .i64 0] 48)).alloc (.cells #[.int .i64 0, .int .i64 1] 48)).alloc (.cells #[.int .i64 1, .int .i64 1] 48) = X := ⟨_, rfl⟩
  have ha : Blk W3 ga 48 #[.int .i64 1, .int .i64 0] := by rw [← hW3]; exact ((blk_at w0 _ _ _ hga).alloc _).alloc _
  have hb : Blk W3 gb 48 #[.int .i64 0, .int .i64 1] := by rw [← hW3]; exact (blk_at (w0.alloc _) _ _ _ (by simp [hga, hgb])).alloc _
  have hc : Blk W3 gc 48 #[.int .i64 1, .int .i64 1] := by rw [← hW3]; exact blk_at ((w0.alloc _).alloc _) _ _ _ (by simp [hga, hgb, hgc])
  have hb3 : Below w0.heap.size w0 W3 := hW3 ▸ (((Below.refl _ _).alloc (Nat.le_refl _) _).alloc (by simp) _).alloc (by simp; omega) _
  have HW3 := Lib.hid hW3
  have HGA := Lib.hid hga
  have HGB := Lib.hid hgb
  have HGC := Lib.hid hgc
  have HA := Lib.hid ha
  have HB := Lib.hid hb
  have HC := Lib.hid hc
  have HB3 := Lib.hid hb3
  have HHG := Lib.hid (hG.below hb3)
  have la := ha.lt
  have lb := hb.lt
  have lc := hc.lt
  clear hW3 hga hgb hgc ha hb hc hb3 hG
  go_enter Tryd.func4, Tryd.ntmps4
  go_upto_region 4 with fail
  rw [HW3.out, HGA.out, HGB.out, HGC.out]
  have a0 : W3.cell? ⟨ga, 0, none⟩ = some (.int .i64 1) := HA.out.cell 0
  have a1 : W3.cell? ⟨ga, 1, none⟩ = some (.int .i64 0) := HA.out.cell 1
  have b0 : W3.cell? ⟨gb, 0, none⟩ = some (.int .i64 0) := HB.out.cell 0
  have b1 : W3.cell? ⟨gb, 1, none⟩ = some (.int .i64 1) := HB.out.cell 1
  have c0 : W3.cell? ⟨gc, 0, none⟩ = some (.int .i64 1) := HC.out.cell 0
  have c1 : W3.cell? ⟨gc, 1, none⟩ = some (.int .i64 1) := HC.out.cell 1
  go_cut [4] from 13 to 76 (fun v w' => ∃ h A c, v = .slice A (scriptK h).length c ∧ Scp w' A (scriptK h) ∧ Below W3.heap.size W3 w')
  case first =>
    have la1 : ga < W3.heap.size + 1 := by omega
    have lb1 : gb < W3.heap.size + 1 := by omega
    have lc1 : gc < W3.heap.size + 1 := by omega
    have la2 : ga < W3.heap.size + 2 := by omega
    have lb2 : gb < W3.heap.size + 2 := by omega
    have lc2 : gc < W3.heap.size + 2 := by omega
    have la3 : ga < W3.heap.size + 3 := by omega
    have lb3 : gb < W3.heap.size + 3 := by omega
    have lc3 : gc < W3.heap.size + 3 := by omega
    have la4 : ga < W3.heap.size + 4 := by omega
    have lb4 : gb < W3.heap.size + 4 := by omega
    have lc4 : gc < W3.heap.size + 4 := by omega
    have la5 : ga < W3.heap.size + 5 := by omega
    have lb5 : gb < W3.heap.size + 5 := by omega
    have lc5 : gc < W3.heap.size + 5 := by omega
    have la6 : ga < W3.heap.size + 6 := by omega
    have lb6 : gb < W3.heap.size + 6 := by omega
    have lc6 : gc < W3.heap.size + 6 := by omega
    have la7 : ga < W3.heap.size + 7 := by omega
    have lb7 : gb < W3.heap.size + 7 := by omega
    have lc7 : gc < W3.heap.size + 7 := by omega
    have la8 : ga < W3.heap.size + 8 := by omega
    have lb8 : gb < W3.heap.size + 8 := by omega
    have lc8 : gc < W3.heap.size + 8 := by omega
    have la9 : ga < W3.heap.size + 9 := by omega
    have lb9 : gb < W3.heap.size + 9 := by omega
    have lc9 : gc < W3.heap.size + 9 := by omega
    have la10 : ga < W3.heap.size + 10 := by omega
    have lb10 : gb < W3.heap.size + 10 := by omega
    have lc10 : gc < W3.heap.size + 10 := by omega
    have la11 : ga < W3.heap.size + 11 := by omega
    have lb11 : gb < W3.heap.size + 11 := by omega
    have lc11 : gc < W3.heap.size + 11 := by omega
    go_wp2_with (fail)
    go_meet
    case rel => exact ⟨W3.heap.size, some ⟨W3.heap.size + 10, 0, none⟩, 37, rfl, scriptK_at (((((((((((blk_at _ 48 #[.int .i64 1, .int .i64 0, .int .i64 0, .int .i64 1] _ (by simp)).alloc _).alloc _).alloc _).alloc _).alloc _).alloc _).alloc _).alloc _).alloc _).alloc _) ((((((((((blk_at _ 48 #[.int .i64 1, .int .i64 1] _ (by simp)).alloc _).alloc _).alloc _).alloc _).alloc _).alloc _).alloc _).alloc _).alloc _) (((((((((blk_at _ 48 #[.int .i64 0, .int .i64 1] _ (by simp)).alloc _).alloc _).alloc _).alloc _).alloc _).alloc _).alloc _).alloc _) ((((((((blk_at _ 48 #[.int .i64 1, .int .i64 1] _ (by simp)).alloc _).alloc _).alloc _).alloc _).alloc _).alloc _).alloc _) (((((((blk_at _ 48 #[.int .i64 1, .int .i64 0] _ (by simp)).alloc _).alloc _).alloc _).alloc _).alloc _).alloc _) ((((((blk_at _ 48 #[.int .i64 0, .int .i64 1] _ (by simp)).alloc _).alloc _).alloc _).alloc _).alloc _) (((((blk_at _ 48 #[.int .i64 0, .int .i64 1, .int .i64 1, .int .i64 0] _ (by simp)).alloc _).alloc _).alloc _).alloc _) ((((blk_at _ 48 #[.int .i64 1, .int .i64 0, .int .i64 1, .int .i64 1] _ (by simp)).alloc _).alloc _).alloc _) (((blk_at _ 48 #[.int .i64 1, .int .i64 0] _ (by simp)).alloc _).alloc _) ((blk_at _ 48 #[.int .i64 1, .int .i64 0] _ (by simp)).alloc _) (blk_at _ 33 _ _ (by simp)), ((((((((((((Below.refl W3.heap.size W3).alloc (by simp <;> omega) _).alloc (by simp <;> omega) _).alloc (by simp <;> omega) _).alloc (by simp <;> omega) _).alloc (by simp <;> omega) _).alloc (by simp <;> omega) _).alloc (by simp <;> omega) _).alloc (by simp <;> omega) _).alloc (by simp <;> omega) _).alloc (by simp <;> omega) _).alloc (by simp <;> omega) _)⟩
  case rest =>
    obtain ⟨h, A, c, rfl, hS, hb⟩ := hcut
    have HS := Lib.hid hS
    have HBW := Lib.hid hb
    have HG := Lib.hid (HHG.out.below hb)
    obtain ⟨os, hos⟩ : ∃ os, scriptK h = os := ⟨_, rfl⟩
    rw [hos] at HS
    rw [hos]
    clear hS hb hos a0 a1 b0 b1 c0 c1
    go_wp2_with (fail)
    go_loopw [5] (fun s5 wr => ∃ r : Int, -1 ≤ r ∧ r ≤ 6 ∧ s5 = .int .i64 r ∧ Below wc.heap.size wc wr) (fun i _ => (6 - intOf i).toNat)
    case atStart => exact ⟨-1, by omega, by omega, rfl, Below.refl _ _⟩
    case round =>
      obtain ⟨r, hr0, hr1, rfl, hbr⟩ := hrel
      have HBR := Lib.hid hbr
      clear hbr
      by_cases hlt : r ≤ 5
      · go_wp2_with (fail)
        refine ((HS.out.below HBR.out).calls r 3 c (HG.out.below HBR.out)).mono ?_
        rintro e w3 ⟨rfl, hb3⟩
        have HB3_ := Lib.hid (below_after HBR.out hb3)
        clear hb3
        go_wp2_with (fail)
        refine ((HS.out.below HB3_.out).calls (-9223372036854775808) 9223372036854775807 c (HG.out.below HB3_.out)).mono ?_
        rintro e w4 ⟨rfl, hb4⟩
        have HB4 := Lib.hid (below_after HB3_.out hb4)
        clear hb4
        go_wp2_with (fail)
        go_roundw
        case rel => exact ⟨r + 1, by omega, by omega, rfl, HB4.out⟩
        case measure => simp [intOf]; omega
      · obtain rfl : r = 6 := by omega
        obtain ⟨wo, rfl⟩ : ∃ wo : World, wo = wr := ⟨_, rfl⟩
        have HB0 := Lib.hid (below_after HBW.out HBR.out)
        have HG0 := Lib.hid (HG.out.below HBR.out)
        clear HS HBR hr0 hr1 hlt la lb lc
        go_wp2_with (fail)
        refine (many_calls wo HG0.out).mono ?_
        rintro e wN ⟨rfl, hbN⟩
        have HBN := Lib.hid (below_after HB0.out hbN)
        have HGN := Lib.hid (HG0.out.below hbN)
        have HAN := Lib.hid (HA.out.below HBN.out HA.out.lt)
        have HBN_ := Lib.hid (HB.out.below HBN.out HB.out.lt)
        have HCN := Lib.hid (HC.out.below HBN.out HC.out.lt)
        have HBW0 := Lib.hid (HB3.out.trans (HBN.out.mono HB3.out.size))
        clear hbN
        go_wp2_with (fail)
        refine (newQ_QB wN 3).mono ?_
        rintro e w1 ⟨p, rfl, hQ⟩
        rw [show roomQ 3 = 3 from rfl] at hQ
        have HQ1 := Lib.hid hQ
        clear hQ
        go_wp2_with (fail)
        refine (works_calls w1).mono ?_
        rintro e w2 ⟨rfl, hb2⟩
        have HQ2 := Lib.hid (HQ1.out.below hb2)
        clear hb2
        have xa0w2 : w2.cell? ⟨ga, 0, none⟩ = some (.int .i64 1) := (HAN.out.below HQ2.out.bel HAN.out.lt).cell 0
        have xa1w2 : w2.cell? ⟨ga, 1, none⟩ = some (.int .i64 0) := (HAN.out.below HQ2.out.bel HAN.out.lt).cell 1
        have xb0w2 : w2.cell? ⟨gb, 0, none⟩ = some (.int .i64 0) := (HBN_.out.below HQ2.out.bel HBN_.out.lt).cell 0
        have xb1w2 : w2.cell? ⟨gb, 1, none⟩ = some (.int .i64 1) := (HBN_.out.below HQ2.out.bel HBN_.out.lt).cell 1
        go_wp2_with (fail)
        have hp := HQ2.out.put 7 (by rfl) [⟨1, 0⟩, ⟨0, 1⟩] 2 #[.int .i64 1, .int .i64 0, .int .i64 0, .int .i64 1] rfl (by simp) (by simp) 0 (by unfold putN; simp)
        rw [errV_zero] at hp
        refine hp.mono ?_
        rintro e w3 ⟨L', rfl, hQ, hno, hyes⟩
        obtain ⟨⟨pb, pA, pc, pi, pt, pk, pr, pg, ph⟩, rfl, e1, e2, e3, e4, e5⟩ := hyes rfl
        simp only at e1 e2 e3 e4 e5
        subst e1 e2 e3 e4 e5
        simp only [List.nil_append, List.cons_append] at hQ
        have HQ3 := Lib.hid hQ
        clear hQ hno hyes hp xa0w2 xa1w2 xb0w2 xb1w2
        have xb0w3 : w3.cell? ⟨gb, 0, none⟩ = some (.int .i64 0) := (HBN_.out.below HQ3.out.bel HBN_.out.lt).cell 0
        have xb1w3 : w3.cell? ⟨gb, 1, none⟩ = some (.int .i64 1) := (HBN_.out.below HQ3.out.bel HBN_.out.lt).cell 1
        go_wp2_with (fail)
        have hp := HQ3.out.put 5 (by rfl) [⟨0, 1⟩] 1 #[.int .i64 0, .int .i64 1] rfl (by simp) (by simp) 0 (by unfold putN; simp)
        rw [errV_zero] at hp
        refine hp.mono ?_
        rintro e w4 ⟨L', rfl, hQ, hno, hyes⟩
        obtain ⟨⟨qb, qA, qc, qi, qt, qk, qr, qg, qh⟩, rfl, e1, e2, e3, e4, e5⟩ := hyes rfl
        simp only at e1 e2 e3 e4 e5
        subst e1 e2 e3 e4 e5
        simp only [List.nil_append, List.cons_append] at hQ
        have HQ4 := Lib.hid hQ
        clear hQ hno hyes hp xb0w3 xb1w3
        have xc0w4 : w4.cell? ⟨gc, 0, none⟩ = some (.int .i64 1) := (HCN.out.below HQ4.out.bel HCN.out.lt).cell 0
        have xc1w4 : w4.cell? ⟨gc, 1, none⟩ = some (.int .i64 1) := (HCN.out.below HQ4.out.bel HCN.out.lt).cell 1
        go_wp2_with (fail)
        have hp := HQ4.out.put 9 (by rfl) [⟨1, 1⟩] 1 #[.int .i64 1, .int .i64 1] rfl (by simp) (by simp) 0 (by unfold putN; simp)
        rw [errV_zero] at hp
        refine hp.mono ?_
        rintro e w5 ⟨L', rfl, hQ, hno, hyes⟩
        obtain ⟨⟨sb, sA, sc, si, st, sk, sr, sg, sh⟩, rfl, e1, e2, e3, e4, e5⟩ := hyes rfl
        simp only at e1 e2 e3 e4 e5
        subst e1 e2 e3 e4 e5
        simp only [List.nil_append, List.cons_append] at hQ
        have HQ5 := Lib.hid hQ
        clear hQ hno hyes hp xc0w4 xc1w4
        have xa0w5 : w5.cell? ⟨ga, 0, none⟩ = some (.int .i64 1) := (HAN.out.below HQ5.out.bel HAN.out.lt).cell 0
        have xa1w5 : w5.cell? ⟨ga, 1, none⟩ = some (.int .i64 0) := (HAN.out.below HQ5.out.bel HAN.out.lt).cell 1
        go_wp2_with (fail)
        have hp := HQ5.out.put 1 (by rfl) [⟨1, 0⟩] 1 #[.int .i64 1, .int .i64 0] rfl (by simp) (by simp) 20 (by unfold putN; simp)
        rw [errV20] at hp
        refine hp.mono ?_
        rintro e w6 ⟨L', rfl, hQ, hno, hyes⟩
        obtain rfl := hno (by decide)
        have HQ6 := Lib.hid hQ
        clear hQ hno hyes hp xa0w5 xa1w5
        go_wp2_with (fail)
        have hpl := plain_errno 20 20 w6 (by decide) (by decide) (HGN.out.below HQ6.out.bel)
        rw [show ((20 : Int) == 20) = true from rfl] at hpl
        refine hpl.mono ?_
        rintro e w7 ⟨rfl, hb7⟩
        have HQ7 := Lib.hid (HQ6.out.below hb7)
        clear hpl hb7
        go_wp2_with (fail)
        have hp := HQ7.out.putNil 9 (by rfl) (by simp) 11 (by unfold putN; simp)
        rw [errV11] at hp
        refine hp.mono ?_
        rintro e w8 ⟨L', rfl, hQ, hno⟩
        obtain rfl := hno (by decide)
        have HQ8 := Lib.hid hQ
        clear hp hQ hno
        go_wp2_with (fail)
        have hpl := plain_errno 11 11 w8 (by decide) (by decide) (HGN.out.below HQ8.out.bel)
        rw [show ((11 : Int) == 11) = true from rfl] at hpl
        refine hpl.mono ?_
        rintro e w9 ⟨rfl, hb9⟩
        have HQ9 := Lib.hid (HQ8.out.below hb9)
        clear hpl hb9
        have xb0w9 : w9.cell? ⟨gb, 0, none⟩ = some (.int .i64 0) := (HBN_.out.below HQ9.out.bel HBN_.out.lt).cell 0
        have xb1w9 : w9.cell? ⟨gb, 1, none⟩ = some (.int .i64 1) := (HBN_.out.below HQ9.out.bel HBN_.out.lt).cell 1
        go_wp2_with (fail)
        refine (HQ9.out.touch [⟨0, 1⟩] 1 #[.int .i64 0, .int .i64 1] rfl (by simp) (by simp) 2 [⟨pb, pA, pc, 7, pt, [⟨1, 0⟩, ⟨0, 1⟩], true, false, false⟩, ⟨qb, qA, qc, 5, qt, [⟨0, 1⟩], true, false, false⟩, ⟨sb, sA, sc, 9, st, [⟨1, 1⟩], false, false, false⟩] (by rfl) (by rfl)).mono ?_
        rintro e wa ⟨rfl, hQ⟩
        have HQa := Lib.hid hQ
        clear hQ xb0w9 xb1w9
        go_wp2_with (fail)
        refine (HQa.out.take (by simp)).mono ?_
        rintro e wb ⟨L', n, ok, rfl, ht, hQ⟩
        obtain ⟨rfl, rfl, rfl⟩ : n = 7 ∧ ok = true ∧ L' = [⟨pb, pA, pc, 7, pt, [⟨1, 0⟩, ⟨0, 1⟩], false, true, false⟩, ⟨qb, qA, qc, 5, qt, [⟨0, 1⟩], true, false, false⟩, ⟨sb, sA, sc, 9, st, [⟨1, 1⟩], false, false, false⟩] := by
          rcases ht with ⟨_, _, _, hz⟩ | ⟨k, hk, h1, h2, h3, h4, h5⟩
          · exact absurd (hz _ (List.mem_cons_self ..)) (by simp)
          · have hk0 : k = 0 := by
              rcases Nat.eq_zero_or_pos k with h | h
              · exact h
              · exact absurd (h3 0 h) (by simp)
            subst hk0
            exact ⟨h4, h1, h5⟩
        have HQb := Lib.hid hQ
        clear hQ ht
        have xa0wb : wb.cell? ⟨ga, 0, none⟩ = some (.int .i64 1) := (HAN.out.below HQb.out.bel HAN.out.lt).cell 0
        have xa1wb : wb.cell? ⟨ga, 1, none⟩ = some (.int .i64 0) := (HAN.out.below HQb.out.bel HAN.out.lt).cell 1
        have xc0wb : wb.cell? ⟨gc, 0, none⟩ = some (.int .i64 1) := (HCN.out.below HQb.out.bel HCN.out.lt).cell 0
        have xc1wb : wb.cell? ⟨gc, 1, none⟩ = some (.int .i64 1) := (HCN.out.below HQb.out.bel HCN.out.lt).cell 1
        go_wp2_with (fail)
        refine (HQb.out.touch [⟨1, 0⟩, ⟨1, 1⟩] 2 #[.int .i64 1, .int .i64 0, .int .i64 1, .int .i64 1] rfl (by simp) (by simp) 1 [⟨pb, pA, pc, 7, pt, [⟨1, 0⟩, ⟨0, 1⟩], false, true, true⟩, ⟨qb, qA, qc, 5, qt, [⟨0, 1⟩], true, false, false⟩, ⟨sb, sA, sc, 9, st, [⟨1, 1⟩], true, false, false⟩] (by rfl) (by rfl)).mono ?_
        rintro e wd ⟨rfl, hQ⟩
        have HQd := Lib.hid hQ
        clear hQ xa0wb xa1wb xc0wb xc1wb
        go_wp2_with (fail)
        refine (HQd.out.idle (by simp) 0 (by rfl)).mono ?_
        rintro e we ⟨IA, ic, rfl, hQ⟩
        have HQe := Lib.hid hQ
        clear hQ
        go_wp2_with (fail)
        refine (HQe.out.back 7 (by rfl)).mono ?_
        rintro e wf ⟨L', ok, rfl, ht, hQ⟩
        obtain ⟨rfl, rfl⟩ : ok = true ∧ L' = [⟨pb, pA, pc, 7, pt, [⟨1, 0⟩, ⟨0, 1⟩], true, false, true⟩, ⟨qb, qA, qc, 5, qt, [⟨0, 1⟩], true, false, false⟩, ⟨sb, sA, sc, 9, st, [⟨1, 1⟩], true, false, false⟩] := by
          rcases ht with ⟨_, _, hz⟩ | ⟨k, hk, h1, h2, h3, h4⟩
          · exact absurd (hz _ (List.mem_cons_self ..) rfl) (by simp)
          · have hk0 : k = 0 := by
              match k, hk with
              | 0, _ => rfl
              | 1, _ => simp at h1
              | 2, _ => simp at h1
            subst hk0
            exact ⟨h3, h4⟩
        have HQf := Lib.hid hQ
        clear hQ ht
        go_wp2_with (fail)
        refine (HQf.out.back 7 (by rfl)).mono ?_
        rintro e wg ⟨L', ok, rfl, ht, hQ⟩
        obtain ⟨rfl, rfl⟩ : ok = false ∧ L' = [⟨pb, pA, pc, 7, pt, [⟨1, 0⟩, ⟨0, 1⟩], true, false, true⟩, ⟨qb, qA, qc, 5, qt, [⟨0, 1⟩], true, false, false⟩, ⟨sb, sA, sc, 9, st, [⟨1, 1⟩], true, false, false⟩] := by
          rcases ht with ⟨h1, h2, _⟩ | ⟨k, hk, h1, h2, h3, h4⟩
          · exact ⟨h1, h2⟩
          · match k, hk with
            | 0, _ => simp at h2
            | 1, _ => simp at h1
            | 2, _ => simp at h1
        have HQg := Lib.hid hQ
        clear hQ ht
        go_wp2_with (fail)
        refine (HQg.out.items (by simp) [7, 5, 9] (by rfl)).mono ?_
        rintro e wh ⟨SA, sc, rfl, hown, hQ, hbh⟩
        have HSI := Lib.hid (sameInts_draws [7, 5, 9] SA (some ⟨wh.heap.size, 0, none⟩) sc 3 (wh.alloc (.cells #[.int .i64 7, .int .i64 5, .int .i64 9] 3)) (Reads.of_own (hown.alloc _)) (ints_lit wh [7, 5, 9] #[.int .i64 7, .int .i64 5, .int .i64 9] rfl) (by decide))
        have HBZ := Lib.hid (HBW0.out.trans (hQ.bel.mono HBW0.out.size))
        clear hown hQ hbh
        go_wp2_with (fail)
        refine HSI.out.mono ?_
        rintro e wi ⟨rfl, m, rfl⟩
        go_wp2
        go_ret
        exact ⟨rfl, below_drewN (HBZ.out.alloc HBZ.out.size _) _⟩
end Go.Proofs.YtmcknfpohnobdaaDoor
