/- custodylaw16.knownRows (of the closed law GuardKnown) by a contract. -/
import Derived.Test.YtmdkcggmnejkoaaDoorKnown
import Derived.Test.YtmdkcggmnejkoaaDoorDecLaw
import Derived.Test.YtmdkcggmnejkoaaDoorBackLaw
namespace Go.Proofs.YtmdkcggmnejkoaaDoor
set_option linter.unusedSimpArgs false
set_option linter.unusedVariables false
open Go.RowKit

theorem reads_blk {w : World} {g n s : Nat} {t : TypeId} {xs : List Value} (h : Blk w g t xs.toArray) (hn : xs.length = n * s) : Reads w w.heap.size s (some ⟨g, 0, none⟩) n xs :=
  ⟨hn, fun _ => ⟨_, rfl, h.lt, fun j u hj => by rw [Addr.add_lit, Nat.zero_add, h.cell j]; simpa using hj⟩⟩
set_option maxRecDepth 100000 in
set_option maxHeartbeats 8000000 in
theorem knownRows_calls (w : World) (hG : HG w) : Calls Tryd.prog 34 #[] w fun e w' => e = .returned (.bool true) ∧ Below w.heap.size w w' := by
  obtain ⟨i0, hi0, hz0, hz1, hz2⟩ := info_parts infoLongs
  go_enter Tryd.func34, Tryd.ntmps34
  go_wp2_with (fail)
  go_loopw [1] (fun j wr => ∃ c : Int, -1 ≤ c ∧ c ≤ 11 ∧ j = .int .i64 c ∧ Below w.heap.size w wr) (fun j _ => (12 - intOf j).toNat)
  case atStart => exact ⟨-1, by omega, by omega, rfl, Below.refl _ _⟩
  case round =>
    obtain ⟨c, hc0, hc1, rfl, B⟩ := hrel
    by_cases hlt : c ≤ 10
    · obtain ⟨g, hg⟩ : ∃ g, wr.heap.size = g := ⟨_, rfl⟩
      have sg : w.heap.size ≤ wr.heap.size := B.size
      have hown0 : (wr.alloc (.cells #[.int .i64 c] 2)).ownsRow w.heap.size 2 1 (.slice (some ⟨wr.heap.size, 0, none⟩) 1 1) 1 (intsC [c]) := own_first wr c _ B.size
      have HO := Lib.hid hown0
      clear hown0
      go_wp2_with (fail)
      go_loopw [2, 3] (fun l j wr => ∃ (n : Nat) (L : List Int), n ≤ 24 ∧ j = .int .i64 n ∧ L.length = n + 1 ∧ wr.ownsRow w.heap.size 2 1 l L.length (intsC L) ∧ Below w.heap.size w wr) (fun _ j _ => 24 - (intOf j).toNat)
      case atStart => exact ⟨0, [c], by omega, rfl, rfl, hg ▸ HO.out, B.alloc B.size _⟩
      case round =>
        obtain ⟨n, L, hn, rfl, hL, hown, B⟩ := hrel
        by_cases hlt2 : n < 24
        · have hnl : (n : Int) < 24 := by omega
          obtain ⟨A, cc, rfl⟩ := own_slice_n hown
          have HL := Lib.hid hL
          clear hL
          go_wp2_with (first
            | (go_at_call 6; refine (lawDecode_calls L A cc wr (Reads.of_own hown) (by have := HL.out; omega) (own_cap_n hown) (hG.below B)).mono ?_; rintro e w3 ⟨rfl, hb3⟩)
            | (at_builtin; refine wpList_append_own _ rfl (.tmp 23) (.tmp 26) 34 rfl w.heap.size 2 i0 _ 1 8 Tryd.underlying34 hi0 hz0 hz1 hz2 rfl (by decide) _ L.length (intsC L) rfl ((own_below hown hb3).alloc _) ⟨w3.heap.size, 0, none⟩ 1 1 [.int .i64 ((n : Int) - 2)] rfl rfl ?_ ?_ ?_ ?_ ?_ ?_; exact new_cells w3 2 [.int .i64 ((n : Int) - 2)]; (simp [Value.oneCell']); (have := HL.out; unfold maxLen; omega); (have := HL.out; omega); (have := B.size; have := hb3.size; simp; omega); intro v1 w4 hown1 hg1 _))
          go_roundw
          case rel =>
            refine ⟨n + 1, L ++ [(n : Int) - 2], by omega, by go_num, by simp [HL.out], ?_, ((B.trans (hb3.mono B.size)).alloc (by have := B.size; have := hb3.size; omega) _).grown hg1 (by have := B.size; have := hb3.size; simp; omega) (fun b hb => own_base hown hb)⟩
            rw [← ints_push, List.length_append]
            exact hown1
          case measure => simp [intOf]; omega
        · obtain rfl : n = 24 := by omega
          clear hown hL
          obtain ⟨g2, hg2⟩ : ∃ g, wr.heap.size = g := ⟨_, rfl⟩
          obtain ⟨W, hW⟩ : ∃ W, ((wr.alloc (.cells #[.int .i64 6, .int .i64 0, .int .i64 0, .int .i64 0, .int .i64 0, .int .i64 0, .int .i64 7, .int .i64 0, .int .i64 0, .int .i64 0] 45)).alloc (.cells #[.int .i64 8, .int .i64 0] 47)).alloc (.cells #[.int .i64 c, .int .i64 1, .int .i64 2, .int .i64 3, .int .i64 4, .int .i64 5, .slice (some ⟨g2, 0, none⟩) 2 2, .slice (some ⟨g2 + 1, 0, none⟩) 1 1] 33) = W := ⟨_, rfl⟩
          have k1 : Blk W g2 45 #[.int .i64 6, .int .i64 0, .int .i64 0, .int .i64 0, .int .i64 0, .int .i64 0, .int .i64 7, .int .i64 0, .int .i64 0, .int .i64 0] := by rw [← hW, ← hg2]; exact ((Blk.new _ _ _).alloc _).alloc _
          have k2 : Blk W (g2 + 1) 47 #[.int .i64 8, .int .i64 0] := by rw [← hW, ← hg2]; have h := (Blk.new (wr.alloc (.cells #[.int .i64 6, .int .i64 0, .int .i64 0, .int .i64 0, .int .i64 0, .int .i64 0, .int .i64 7, .int .i64 0, .int .i64 0, .int .i64 0] 45)) 47 #[.int .i64 8, .int .i64 0]).alloc (.cells #[.int .i64 c, .int .i64 1, .int .i64 2, .int .i64 3, .int .i64 4, .int .i64 5, .slice (some ⟨wr.heap.size, 0, none⟩) 2 2, .slice (some ⟨wr.heap.size + 1, 0, none⟩) 1 1] 33); simpa using h
          have k3 : Blk W (g2 + 1 + 1) 33 #[.int .i64 c, .int .i64 1, .int .i64 2, .int .i64 3, .int .i64 4, .int .i64 5, .slice (some ⟨g2, 0, none⟩) 2 2, .slice (some ⟨g2 + 1, 0, none⟩) 1 1] := by
            rw [← hW]
            have h := Blk.new ((wr.alloc (.cells #[.int .i64 6, .int .i64 0, .int .i64 0, .int .i64 0, .int .i64 0, .int .i64 0, .int .i64 7, .int .i64 0, .int .i64 0, .int .i64 0] 45)).alloc (.cells #[.int .i64 8, .int .i64 0] 47)) 33 #[.int .i64 c, .int .i64 1, .int .i64 2, .int .i64 3, .int .i64 4, .int .i64 5, .slice (some ⟨g2, 0, none⟩) 2 2, .slice (some ⟨g2 + 1, 0, none⟩) 1 1]
            simpa [hg2] using h
          have BW : Below w.heap.size w W := hW ▸ (((B.alloc B.size _).alloc (by have := B.size; simp; omega) _).alloc (by have := B.size; simp; omega) _)
          have r1 : Reads W W.heap.size 5 (some ⟨g2, 0, none⟩) 2 (legsC [⟨6, 0, 0, 0, 0⟩, ⟨0, 7, 0, 0, 0⟩]) := reads_blk k1 rfl
          have r2 : Reads W W.heap.size 2 (some ⟨g2 + 1, 0, none⟩) 1 (keysC [⟨8, 0⟩]) := reads_blk k2 rfl
          have x0 := k3.cell 0
          have x1 := k3.cell 1
          have x2 := k3.cell 2
          have x3 := k3.cell 3
          have x4 := k3.cell 4
          have x5 := k3.cell 5
          have x6 := k3.cell 6
          have x7 := k3.cell 7
          simp only [List.getElem?_toArray, List.getElem?_cons_zero, List.getElem?_cons_succ] at x0 x1 x2 x3 x4 x5 x6 x7
          clear k1 k2 k3
          go_wp2_with (fail)
          refine (lawEncode_calls ⟨c, 1, 2, 3, 4, 5, [⟨6, 0, 0, 0, 0⟩, ⟨0, 7, 0, 0, 0⟩], [⟨8, 0⟩]⟩ _ _ 2 1 W r1 r2 (by simp) (by simp) (hG.below BW)).mono ?_
          rintro e w5 ⟨rfl, hb5⟩
          have B5 := BW.trans (hb5.mono BW.size)
          go_wp2_with (fail)
          refine (lawEncode_calls ⟨c, 0, 0, 0, 0, 0, [], []⟩ none none 0 0 w5 Reads.none_ Reads.none_ (by simp) (by simp) (hG.below B5)).mono ?_
          rintro e w6 ⟨rfl, hb6⟩
          go_wp2_with (fail)
          go_roundw
          case rel => exact ⟨c + 1, by omega, by omega, by go_num, B5.trans (hb6.mono B5.size)⟩
          case measure => simp [intOf]; omega
    · obtain rfl : c = 11 := by omega
      obtain ⟨ge, hge⟩ : ∃ g, wr.heap.size = g := ⟨_, rfl⟩
      have hsw : w.heap.size ≤ ge := hge ▸ B.size
      go_wp2_with (fail)
      go_loopw [6] (fun j wr => ∃ c : Int, 1 ≤ c ∧ c ≤ 9 ∧ j = .int .i64 c ∧ Blk wr ge 2 (intsC [-9223372036854775808, -4611686018427387904, -4294967296, 2147483648, 4294967296, 9223372036854775807]).toArray ∧ Below w.heap.size w wr) (fun j _ => (12 - intOf j).toNat)
      case atStart => exact ⟨1, by omega, by omega, rfl, hge ▸ Blk.new _ _ _, B.alloc B.size _⟩
      case round =>
        clear B
        obtain ⟨c, hc0, hc1, rfl, hE, B⟩ := hrel
        by_cases hlt : c < 9
        · go_wp2_with (fail)
          go_loopw [7] (fun j wr => ∃ i : Nat, i ≤ 6 ∧ j = .int .i64 i ∧ Blk wr ge 2 (intsC [-9223372036854775808, -4611686018427387904, -4294967296, 2147483648, 4294967296, 9223372036854775807]).toArray ∧ Below w.heap.size w wr) (fun j _ => 6 - (intOf j).toNat)
          case atStart => exact ⟨0, by omega, rfl, hE, B⟩
          case round =>
            clear B hE
            obtain ⟨i, hi, rfl, hE, B⟩ := hrel
            by_cases hlt2 : i < 6
            · have hil : (i : Int) < 6 := by omega
              obtain ⟨g, hg⟩ : ∃ g, wr.heap.size = g := ⟨_, rfl⟩
              have HO := Lib.hid (own_first wr c (ge + 1) hE.lt)
              have HE := Lib.hid hE
              clear hE
              go_wp2_with (fail)
              go_loopw [8, 9] (fun l j wr => ∃ (n : Nat) (L : List Int), n ≤ 13 ∧ j = .int .i64 n ∧ L.length = n + 1 ∧ wr.ownsRow (ge + 1) 2 1 l L.length (intsC L) ∧ Blk wr ge 2 (intsC [-9223372036854775808, -4611686018427387904, -4294967296, 2147483648, 4294967296, 9223372036854775807]).toArray ∧ Below w.heap.size w wr) (fun _ j _ => 13 - (intOf j).toNat)
              case atStart => exact ⟨0, [c], by omega, rfl, rfl, hg ▸ HO.out, HE.out.alloc _, B.alloc B.size _⟩
              case round =>
                clear B
                obtain ⟨n, L, hn, rfl, hL, hown, hE, B⟩ := hrel
                by_cases hlt3 : n < 13
                · have hnl : (n : Int) < 13 := by omega
                  obtain ⟨A, cc, rfl⟩ := own_slice_n hown
                  obtain ⟨k, hk⟩ : ∃ k : Nat, k = (i + n / 4) % 6 := ⟨_, rfl⟩
                  have hk6 : k < 6 := by omega
                  have hki : ((i : Int) + (n : Int) / 4) % 6 = (k : Int) := by omega
                  have hw : IntKind.i64.wrap ((i : Int) + (n : Int) / 4) = (i : Int) + (n : Int) / 4 := by rw [IntKind.wrap_i64]; omega
                  have hn0 : (0 : Int) ≤ (n : Int) := by omega
                  have hin0 : (0 : Int) ≤ (i : Int) + (n : Int) / 4 := by omega
                  have hkl : (k : Int) < 6 := by omega
                  obtain ⟨x, cx⟩ := ints_cell hE (i := k) hk6
                  have HL := Lib.hid hL
                  have HE2 := Lib.hid hE
                  clear hL hE hk
                  go_wp2_with (fail)
                  refine (lawDecode_calls L A cc wr (Reads.of_own hown) (by have := HL.out; omega) (own_cap_n hown) (hG.below B)).mono ?_
                  rintro e w3 ⟨rfl, hb3⟩
                  have hown3 := own_below hown hb3
                  have B3 := B.trans (hb3.mono B.size)
                  have hE3 := HE2.out.below hb3 HE2.out.lt
                  go_wp2_with (fail)
                  refine (lawBack_calls ⟨0, 0, 0, 0, 0, 0, [], []⟩ ⟨0, 0, 0, 0, 0, 0, [], []⟩ none none none none A 0 0 0 0 cc L w3 Reads.none_ Reads.none_ Reads.none_ Reads.none_ (Reads.of_own hown3) (by simp) (by simp) (by simp) (by simp) (by have := HL.out; omega) (own_cap_n hown) (hG.below B3)).mono ?_
                  rintro e w4 ⟨rfl, hb4⟩
                  have hown4 := own_below hown3 hb4
                  have B4 := B3.trans (hb4.mono B3.size)
                  have hE4 := hE3.below hb4 hE3.lt
                  have cx4 := cell_below hb4 (cell_below hb3 cx)
                  have HE4 := Lib.hid hE4
                  clear hE3 hE4
                  go_wp2_with (first
                    | (at_builtin; refine wpList_append_own _ rfl (.tmp 71) (.tmp 82) 34 rfl (ge + 1) 2 i0 _ 1 8 Tryd.underlying34 hi0 hz0 hz1 hz2 rfl (by decide) _ L.length (intsC L) rfl (hown4.alloc _) ⟨w4.heap.size, 0, none⟩ 1 1 [.int .i64 x] rfl rfl ?_ ?_ ?_ ?_ ?_ ?_; exact new_cells w4 2 [.int .i64 x]; (simp [Value.oneCell']); (have := HL.out; unfold maxLen; omega); (have := HL.out; omega); (have := HE4.out.lt; simp; omega); intro v1 w5 hown5 hg1 _))
                  go_roundw
                  case rel =>
                    refine ⟨n + 1, L ++ [x], by omega, by go_num, by simp [HL.out], ?_, (HE4.out.alloc _).grown hg1 (fun he => by have := own_base hown he.symm; omega), (B4.alloc B4.size _).grown hg1 (by have := B4.size; simp; omega) (fun b hb => by have := own_base hown hb; omega)⟩
                    rw [← ints_push, List.length_append]
                    exact hown5
                  case measure => simp [intOf]; omega
                · obtain rfl : n = 13 := by omega
                  go_wp2_with (fail)
                  go_roundw
                  case rel => exact ⟨i + 1, by omega, by go_num, hE, B⟩
                  case measure => simp [intOf]; omega
            · obtain rfl : i = 6 := by omega
              go_wp2_with (fail)
              go_roundw
              case rel => exact ⟨c + 1, by omega, by omega, by go_num, hE, B⟩
              case measure => simp [intOf]; omega
        · obtain rfl : c = 9 := by omega
          go_wp2_with (fail)
          refine (lawDecode_calls [] none 0 wr Reads.none_ (by simp) (by simp) (hG.below B)).mono ?_
          rintro e w3 ⟨rfl, hb3⟩
          have B0 := B.trans (hb3.mono B.size)
          go_wp2_with (fail)
          refine (lawDecode_calls [4294967296] _ 1 _ (reads_blk (Blk.new w3 2 _) rfl) (by simp) (by simp) (hG.below (B0.alloc B0.size _))).mono ?_
          rintro e w4 ⟨rfl, hb1⟩
          have B1 := (B0.alloc B0.size (.cells #[.int .i64 4294967296] 2)).trans (hb1.mono (B0.alloc B0.size _).size)
          go_wp2_with (fail)
          refine (lawDecode_calls [4294967297, 0, 0, 1] _ 4 _ (reads_blk (Blk.new w4 2 _) rfl) (by simp) (by simp) (hG.below (B1.alloc B1.size _))).mono ?_
          rintro e w5 ⟨rfl, hb2⟩
          have B2 := (B1.alloc B1.size (.cells #[.int .i64 4294967297, .int .i64 0, .int .i64 0, .int .i64 1] 2)).trans (hb2.mono (B1.alloc B1.size _).size)
          go_wp2_with (fail)
          refine (lawDecode_calls [5, 9223372036854775807, -9223372036854775808, 9223372036854775807, 0, -1, -9223372036854775808] _ 7 _ (reads_blk (Blk.new w5 2 _) rfl) (by simp) (by simp) (hG.below (B2.alloc B2.size _))).mono ?_
          rintro e w6 ⟨rfl, hb3⟩
          have B3 := (B2.alloc B2.size (.cells #[.int .i64 5, .int .i64 9223372036854775807, .int .i64 (-9223372036854775808), .int .i64 9223372036854775807, .int .i64 0, .int .i64 (-1), .int .i64 (-9223372036854775808)] 2)).trans (hb3.mono (B2.alloc B2.size _).size)
          go_wp2
          go_ret
          exact ⟨rfl, B3⟩
end Go.Proofs.YtmdkcggmnejkoaaDoor
