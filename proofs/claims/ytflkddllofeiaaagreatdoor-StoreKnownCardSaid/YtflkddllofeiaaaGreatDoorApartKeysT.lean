/- custodykit.ApartKeys by a contract (printed by gen_apart.py). -/
import Derived.Test.YtflkddllofeiaaaGreatDoorApart0
import Derived.Test.YtflkddllofeiaaaGreatDoorClass
import Derived.Test.YtflkddllofeiaaaGreatDoorKeysKit
import Derived.Deep.RegionHeld3
import Derived.BigQuiet
namespace Go.Proofs.YtflkddllofeiaaaGreatDoor
set_option linter.unusedSimpArgs false
set_option linter.unusedVariables false
open Go.RowKit

def keysMark : Mark 2 := ⟨fun k i => [.int .i64 ((markKeys (k : Nat) (i : Nat)).acc), .int .i64 ((markKeys (k : Nat) (i : Nat)).ast)], fun _ _ => rfl, fun k i u hu => by simp only [List.mem_cons, List.not_mem_nil, or_false] at hu; rcases hu with rfl | rfl <;> rfl⟩

theorem infoKeysT : (Tryz.prog.info? 40).map (fun i => (i.zero, i.size, i.bytes)) = some (some (.slice none 0 0), 1, 24) := by kernel_rfl
theorem own_slice_k {w : World} {base : Nat} {e : TypeId} {size n : Nat} {v : Value} {xs : List Value} (h : w.ownsRow base e size v n xs) : ∃ A c, v = .slice A n c := by
  rcases h.2 with h0 | ⟨g, cap, cur, rfl, _⟩
  · exact ⟨none, 0, by rw [h0.1, h0.2]⟩
  · exact ⟨_, _, rfl⟩
set_option maxRecDepth 100000 in
set_option maxHeartbeats 8000000 in
theorem apartKeys_calls (N gL c : Nat) (vs : Nat → Value) (m : Nat → Nat) (ow : Nat → Nat) (B : Nat) (cur : Array Value) (w : World) (hL : Blk w gL 40 cur) (hcur : ∀ k, k < N → cur[k]? = some (vs k)) (hr : ∀ j, j < N → Fil keysMark 33 ow B w (vs j) j (m j) 0)
    (hN : N ≤ 5100000000000) (hm : ∀ j, j < N → (m j + 64) * 16 ≤ 140737488355328) (hB : B ≤ w.heap.size) :
    Calls Tryz.prog 15 #[.slice (some ⟨gL, 0, none⟩) N c] w fun e w' => e = .returned (.bool true) ∧ Below B w w' ∧ KeepT 33 w w' := by
  obtain ⟨i0, hi0, hz0, hz1, hz2⟩ := info_parts infoKeys
  obtain ⟨iT, hiT, hT0, hT1, hT2⟩ := info_parts infoKeysT
  have hL0 := hL
  have HM := Lib.hid hm
  clear hm
  go_enter Tryz.func15, Tryz.ntmps15
  go_wp2_with (fail)
  go_loopw [3] (fun i wr => ∃ k : Nat, k ≤ N ∧ i = .int .i64 k ∧ Below B w wr ∧ Blk wr gL 40 cur ∧ Rows keysMark 33 ow B wr vs m N k 0 ∧ KeepT 33 w wr) (fun i _ => N - (intOf i).toNat)
  case atStart => exact ⟨0, Nat.zero_le _, rfl, Below.refl _ _, hL, Rows.start hr, KeepT.refl _ _⟩
  case round =>
    obtain ⟨k, hk, rfl, hbel, hLr, hrows, hkp⟩ := hrel
    clear hL hr
    by_cases hlt : k < N
    · have hlt' : (k : Int) < N := by omega
      have hkk := hrows k hlt
      have hmk : m k ≤ 8796093022144 := by have := HM.out k hlt; omega
      obtain ⟨A, cc, hv, hcc⟩ := hkk.slice
      have c0 : wr.cell? ⟨gL, k, none⟩ = some (.slice A (m k) cc) := by rw [hLr.cell k, hcur k hlt, hv]
      go_wp2_with (fail)
      go_loopw [4] (fun i wr => ∃ q : Nat, q ≤ m k ∧ i = .int .i64 q ∧ Below B w wr ∧ Blk wr gL 40 cur ∧ Rows keysMark 33 ow B wr vs m N k q ∧ KeepT 33 w wr) (fun i _ => m k - (intOf i).toNat)
      case atStart => exact ⟨0, Nat.zero_le _, rfl, hbel, hLr, hrows, hkp⟩
      case round =>
        obtain ⟨q, hq, rfl, hbeli, hLi, hrowsi, hkpi⟩ := hrel
        clear hbel hLr hrows hkk c0
        have c0 : wr.cell? ⟨gL, k, none⟩ = some (.slice A (m k) cc) := by rw [hLi.cell k, hcur k hlt, hv]
        by_cases hlt2 : q < m k
        · have hki := hrowsi k hlt
          rw [if_neg (by omega), if_pos rfl, hv] at hki
          rcases hki with ⟨h0, h1⟩ | ⟨h, cap, cur2, h0, hBh, howk, hbk, hsz, hc2, hmx, _, _⟩
          · omega
          injection h0 with h1 _ h2
          subst h1 h2
          have hroom : (q + 1) * 2 ≤ cc * 2 := Nat.mul_le_mul_right _ (by omega)
          obtain ⟨u0, z0⟩ : ∃ u, wr.cell? ⟨h, q * 2, none⟩ = some u := by rw [hbk.cell]; exact ⟨_, Array.getElem?_eq_getElem (by omega)⟩
          have f0 : wr.frozen? ⟨h, q * 2, none⟩ = false := hbk.frozen _
          obtain ⟨u1, z1⟩ : ∃ u, wr.cell? ⟨h, q * 2 + 1, none⟩ = some u := by rw [hbk.cell]; exact ⟨_, Array.getElem?_eq_getElem (by omega)⟩
          have f1 : wr.frozen? ⟨h, q * 2 + 1, none⟩ = false := hbk.frozen _
          have hne : h ≠ gL := hbk.ne_ hLi (by decide)
          have hlq : (q : Int) < (m k : Int) := by omega
          have hl0 : (0 : Int) ≤ q := by omega
          go_wp2_with (fail)
          go_region_held3 (fun w' => w'.cell? ⟨gL, k, none⟩ = some (.slice (some ⟨h, 0, none⟩) (m k) cc))
            (first | go_keep | fail)
            (first | (go_at_call 48; refine (markKeys_calls (k : Int) (q : Int) wr.drew ⟨by omega, by omega⟩).mono ?_; rintro e w2 ⟨rfl, hb2⟩; have c1 := cell_below (w := wr.drew) hb2 c0; have hbk2 := Blk.below (w := wr.drew) hbk hb2 hbk.lt; have y0 := cell_below (w := wr.drew) hb2 z0; have g0 := hbk2.frozen (q * 2); have y1 := cell_below (w := wr.drew) hb2 z1; have g1 := hbk2.frozen (q * 2 + 1)))
          replace hb2 : Below wr.heap.size wr w2 := (Below.refl _ _).drew.trans hb2
          have hB2 : Below B w w2 := hbeli.trans (hb2.mono (Nat.le_trans hB hbeli.size))
          have hL2 := hLi.below hb2 hLi.lt
          have hrows2 := (hrowsi.up hb2).mark hlt hv hlt2
          have hkp2 : KeepT 33 w (w2.setCells h (q * 2) (keysMark.cs k q)) := (hkpi.below hb2).row (grown_setCells (keysMark.cs k q) (q * 2) w2) (fun b hb => by injection hb with hb; subst hb; exact ⟨_, hbk.below hb2 hbk.lt⟩)
          go_wp2
          go_roundw
          case rel => exact ⟨q + 1, by omega, by go_num, below_setCells hBh (keysMark.cs k q) (q * 2) w2 hB2, (heap_setCells (keysMark.cs k q) (q * 2) w2 gL (Ne.symm hne)).trans hL2, hrows2, hkp2⟩
          case measure => simp [intOf]; omega
        · obtain rfl : q = m k := by omega
          go_wp2
          go_roundw
          case rel => exact ⟨k + 1, by omega, by go_num, hbeli, hLi, hrowsi.next, hkpi⟩
          case measure => simp [intOf]; omega
    · have hkN : N = k := by omega
      subst hkN
      have hfull := hrows.done
      clear hrows
      go_wp2_with (fail)
      go_loopw [5, 6] (fun gv i wr => ∃ (k : Nat) (ow : Nat → Nat) (gs : Nat → Value), k ≤ N ∧ i = .int .i64 k ∧ Below B w wr ∧ Blk wr gL 40 cur ∧ GsAt keysMark 33 ow B wr vs m N gs k ∧ wr.ownsRow w.heap.size 40 1 gv k ((List.range k).map gs) ∧ KeepT 33 w wr) (fun _ i _ => N - (intOf i).toNat)
      case atStart => exact ⟨0, ow, vs, Nat.zero_le _, rfl, hbel, hLr, ⟨hfull, fun j hj => by omega⟩, World.ownsRow_nil _ _ _ _, hkp⟩
      case round =>
        obtain ⟨k, ow, gs, hk, rfl, hbel, hLr, hgs, hgv, hkp⟩ := hrel
        by_cases hlt : k < N
        · have hlt' : (k : Int) < N := by omega
          have hmk : m k ≤ 8796093022144 := by have := HM.out k hlt; omega
          obtain ⟨A, cc, hv, hcc⟩ := (hgs.1 k hlt).slice
          have c0 : wr.cell? ⟨gL, k, none⟩ = some (.slice A (m k) cc) := by rw [hLr.cell k, hcur k hlt, hv]
          obtain ⟨GA, gc, rfl⟩ := own_slice_k hgv
          have hx0 : Fil keysMark 33 ow B wr (.slice A (m k) cc) k (m k + 0) (m k + 0) := hv ▸ hgs.1 k hlt
          go_wp2_with (fail)
          go_loopw [7, 8] (fun x i wr => ∃ (q : Nat) (ow : Nat → Nat), q ≤ 64 ∧ i = .int .i64 q ∧ Below B w wr ∧ Blk wr gL 40 cur ∧ GsAt keysMark 33 ow B wr vs m N gs k ∧ Fil keysMark 33 ow B wr x k (m k + q) (m k + q) ∧ wr.ownsRow w.heap.size 40 1 (.slice GA k gc) k ((List.range k).map gs) ∧ KeepT 33 w wr) (fun _ i _ => 64 - (intOf i).toNat)
          case atStart => exact ⟨0, ow, by omega, rfl, hbel, hLr, hgs, hx0, hgv, hkp⟩
          case round =>
            obtain ⟨q, ow, hq, rfl, hbel, hLr, hgs, hx, hgv, hkp⟩ := hrel
            obtain ⟨AX, cx, rfl, hcx⟩ := hx.slice
            have c0 : wr.cell? ⟨gL, k, none⟩ = some (.slice A (m k) cc) := by rw [hLr.cell k, hcur k hlt, hv]
            by_cases hq2 : q < 64
            · have hq3 : (q : Int) < 64 := by omega
              have hw : IntKind.i64.wrap ((m k : Int) + (q : Int)) = (m k : Int) + (q : Int) := by rw [IntKind.wrap_i64]; omega
              go_wp2_with (first
                | (go_at_call 48; refine (markKeys_calls (k : Int) ((m k : Int) + (q : Int)) wr ⟨by omega, by omega⟩).mono ?_; rintro e w2 ⟨rfl, hb2⟩)
                | (at_builtin; obtain ⟨v', w3, ow2, hrun, hx2, hgr, how, hown, hl⟩ := run_append_fil (P := Tryz.prog) (w := w2.alloc (.cells #[.int .i64 ((markKeys (k : Int) ((m k : Int) + (q : Int))).acc), .int .i64 ((markKeys (k : Int) ((m k : Int) + (q : Int))).ast)] 33)) 40 40 i0 _ 16 Tryz.underlying40 hi0 hz0 hz1 hz2 rfl (by decide) ((hx.up hb2).up (alloc_here _ _)) ⟨w2.heap.size, 0, none⟩ 1 (new_cells w2 33 [.int .i64 ((markKeys (k : Int) ((m k : Int) + (q : Int))).acc), .int .i64 ((markKeys (k : Int) ((m k : Int) + (q : Int))).ast)]) (by unfold maxLen; omega) (by omega) (by have := hbel.size; have := hb2.size; simp; omega); refine wpList_append_run _ rfl (.tmp 50) (.tmp 60) 40 rfl _ _ rfl rfl v' w3 hrun ?_; obtain ⟨AY, cy, rfl, hcy⟩ := hx2.slice))
              have hA : Below w2.heap.size w2 (w2.alloc (.cells #[.int .i64 ((markKeys (k : Int) ((m k : Int) + (q : Int))).acc), .int .i64 ((markKeys (k : Int) ((m k : Int) + (q : Int))).ast)] 33)) := alloc_here _ _
              have hfb := fun b hb => ((hx.up hb2).up hA).blk (b := b) hb
              have s1 : w.heap.size ≤ wr.heap.size := hbel.size
              have s2 := hb2.size
              have s3 := hA.size
              go_roundw
              case rel => exact ⟨q + 1, ow2, by omega, by go_num, ((hbel.trans (hb2.mono (by omega))).trans (hA.mono (by omega))).grown hgr (by omega) (fun b hb => (hfb b hb).2.2), blk_types ((hLr.below hb2 hLr.lt).below hA (hLr.below hb2 hLr.lt).lt) hgr (fun b hb => (hfb b hb).1) (by decide), ((hgs.up hb2).up hA).append (p := m k + q) (by omega) hgr how hown hl, hx2, own_types (own_up (own_up hgv hb2) hA) hgr (fun b hb => (hfb b hb).1) (by decide), ((hkp.below hb2).below hA).row hgr (fun b hb => (hfb b hb).1)⟩
              case measure => simp [intOf]; omega
            · have hq64 : 64 = q := by omega
              subst hq64
              have s1 : w.heap.size ≤ wr.heap.size := hbel.size
              have hgL := hL0.lt
              go_wp2_with (first
                | (at_builtin; refine wpList_append_own _ rfl (.tmp 62) (.tmp 64) 30 rfl w.heap.size 40 iT _ 1 24 Tryz.underlying30 hiT hT0 hT1 hT2 rfl (by decide) _ k ((List.range k).map gs) rfl (hgv.alloc _) ⟨wr.heap.size, 0, none⟩ 1 1 [.slice AX (m k + 64) cx] rfl rfl ?_ ?_ ?_ ?_ ?_ ?_; exact new_cells wr 40 [.slice AX (m k + 64) cx]; (simp [Value.oneCell']); (unfold maxLen; omega); (omega); (simp; omega); intro v1 w1 hown1 hg1 _))
              go_roundw
              case rel =>
                have hA : Below wr.heap.size wr (wr.alloc (.cells #[.slice AX (m k + 64) cx] 40)) := alloc_here _ _
                refine ⟨k + 1, ow, fun j => if j = k then .slice AX (m k + 64) cx else gs j, by omega, by go_num, (hbel.trans (hA.mono (by omega))).grown hg1 (by simp; omega) (fun b hb => Nat.le_trans hB (own_base (hgv.alloc (.cells #[.slice AX (m k + 64) cx] 40)) hb)), (hLr.below hA hLr.lt).grown hg1 (fun he => by have := own_base (hgv.alloc (.cells #[.slice AX (m k + 64) cx] 40)) he.symm; omega), ((hgs.up hA).far hg1 (fun b cur hb he => own_blk_ne (hgv.alloc (.cells #[.slice AX (m k + 64) cx] 40)) hb (by decide) he.symm)).push ?_, ?_, (hkp.below hA).new hg1 (fun b hb => own_base (hgv.alloc (.cells #[.slice AX (m k + 64) cx] 40)) hb)⟩
                · exact ((hx.up hA).keep (fun b cur hb _ => hg1.block b hb.lt (fun he => own_blk_ne (hgv.alloc (.cells #[.slice AX (m k + 64) cx] 40)) hb (by decide) he.symm)) (fun _ _ => rfl))
                · rw [range_push]; exact hown1
              case measure => simp [intOf]; omega
        · have hkN : N = k := by omega
          subst hkN
          obtain ⟨GA, gc, rfl⟩ := own_slice_k hgv
          have hgr := Reads.of_own hgv
          have s1 : w.heap.size ≤ wr.heap.size := hbel.size
          have HKP := Lib.hid hkp
          clear hkp
          rename World => W
          go_wp2_with (fail)
          go_loopw [9] (fun i wx => ∃ k : Nat, k ≤ N ∧ i = .int .i64 k ∧ Below W.heap.size W wx) (fun i _ => N - (intOf i).toNat)
          case atStart => exact ⟨0, Nat.zero_le _, rfl, Below.refl _ _⟩
          case round =>
            obtain ⟨k, hk, rfl, hb⟩ := hrel
            by_cases hlt : k < N
            · have hlt' : (k : Int) < N := by omega
              have hmk : m k ≤ 8796093022144 := by have := HM.out k hlt; omega
              obtain ⟨A, cc, hv, hcc⟩ := (hgs.1 k hlt).slice
              obtain ⟨AG, cg, hvg, hcg⟩ := (hgs.2 k hlt).slice
              obtain ⟨ad, u, rfl, hadb, hu, hcu⟩ := hgr.at_ hlt
              have hu2 : u = .slice AG (m k + 64) cg := by
                rw [List.getElem?_map, List.getElem?_range hlt] at hu
                simp only [Option.map_some, Option.some.injEq] at hu
                rw [← hu, hvg]
              subst hu2
              go_wp2_with (fail)
              go_loopw [10] (fun i wx => ∃ q : Nat, q ≤ m k + 64 ∧ i = .int .i64 q ∧ Below W.heap.size W wx) (fun i _ => m k + 64 - (intOf i).toNat)
              case atStart => exact ⟨0, Nat.zero_le _, rfl, hb⟩
              case round =>
                obtain ⟨q, hq, rfl, hb⟩ := hrel
                have c1 : wr.cell? (ad.add k) = some (.slice AG (m k + 64) cg) := cell_below hb hcu
                have c0 : wr.cell? ⟨gL, k, none⟩ = some (.slice A (m k) cc) := by rw [(hLr.below hb hLr.lt).cell k, hcur k hlt, hv]
                by_cases hlt2 : q < m k + 64
                · have hql : (q : Int) < (m k : Int) + 64 := by omega
                  have hl0 : (0 : Int) ≤ q := by omega
                  have hG := (hgs.2 k hlt).up hb
                  rw [hvg] at hG
                  rcases hG with ⟨h0, h1⟩ | ⟨h2, cap, cur2, h0, _, _, hbk, hsz, hc2, hmx, _, hcell⟩
                  · omega
                  injection h0 with h0 _ h3
                  subst h0 h3
                  have e0 : wr.cell? ⟨h2, q * 2, none⟩ = some (.int .i64 ((markKeys (k : Int) (q : Int)).acc)) := by simpa using hcell q hlt2 0 _ rfl
                  have e1 : wr.cell? ⟨h2, q * 2 + 1, none⟩ = some (.int .i64 ((markKeys (k : Int) (q : Int)).ast)) := by simpa using hcell q hlt2 1 _ rfl
                  clear hcell
                  by_cases hlt3 : q < m k
                  · have hq3 : (q : Int) < (m k : Int) := by omega
                    have hG := (hgs.1 k hlt).up hb
                    rw [hv] at hG
                    rcases hG with ⟨h0, h1⟩ | ⟨h4, cap, cur2, h0, _, _, hbk2, hsz2, hc3, hmx2, _, hcell⟩
                    · omega
                    injection h0 with h0 _ h3
                    subst h0 h3
                    have o0 : wr.cell? ⟨h4, q * 2, none⟩ = some (.int .i64 ((markKeys (k : Int) (q : Int)).acc)) := by simpa using hcell q hlt3 0 _ rfl
                    have o1 : wr.cell? ⟨h4, q * 2 + 1, none⟩ = some (.int .i64 ((markKeys (k : Int) (q : Int)).ast)) := by simpa using hcell q hlt3 1 _ rfl
                    clear hcell
                    go_wp2_with (first | (go_at_call 48; refine (markKeys_calls (k : Int) (q : Int) wr ⟨by omega, by omega⟩).mono ?_; rintro e w2 ⟨rfl, hb2⟩))
                    obtain ⟨W3, hW3⟩ : ∃ W3, w2.alloc (.cells #[.int .i64 ((markKeys (k : Int) (q : Int)).acc), .int .i64 ((markKeys (k : Int) (q : Int)).ast)] 33) = W3 := ⟨_, rfl⟩
                    have b3 : Blk W3 w2.heap.size 33 #[.int .i64 ((markKeys (k : Int) (q : Int)).acc), .int .i64 ((markKeys (k : Int) (q : Int)).ast)] := hW3 ▸ Blk.new _ _ _
                    have hb3 : Below wr.heap.size wr W3 := hb2.trans (hW3 ▸ (alloc_here _ _).mono hb2.size)
                    have n0 : W3.cell? ⟨w2.heap.size, 0, none⟩ = some (.int .i64 ((markKeys (k : Int) (q : Int)).acc)) := b3.cell 0
                    have n1 : W3.cell? ⟨w2.heap.size, 1, none⟩ = some (.int .i64 ((markKeys (k : Int) (q : Int)).ast)) := b3.cell 1
                    rw [hW3]
                    clear hW3
                    have pe0 := cell_below hb3 e0
                    have pe1 := cell_below hb3 e1
                    have po0 := cell_below hb3 o0
                    have po1 := cell_below hb3 o1
                    have pc0 := cell_below hb3 c0
                    have pc1 := cell_below hb3 c1
                    go_quiet (fail)
                    have hb4 : Below wr.heap.size wr (W3.drewN nq) := ⟨hb3.os, hb3.tape, hb3.output, hb3.size, hb3.block⟩
                    go_wp2
                    go_roundw
                    case rel => exact ⟨q + 1, by omega, by go_num, hb.trans (hb4.mono hb.size)⟩
                    case measure => simp [intOf]; omega
                  · have hq3 : ¬ (q : Int) < (m k : Int) := by omega
                    go_wp2_with (first | (go_at_call 48; refine (markKeys_calls (k : Int) (q : Int) wr ⟨by omega, by omega⟩).mono ?_; rintro e w2 ⟨rfl, hb2⟩))
                    obtain ⟨W3, hW3⟩ : ∃ W3, w2.alloc (.cells #[.int .i64 ((markKeys (k : Int) (q : Int)).acc), .int .i64 ((markKeys (k : Int) (q : Int)).ast)] 33) = W3 := ⟨_, rfl⟩
                    have b3 : Blk W3 w2.heap.size 33 #[.int .i64 ((markKeys (k : Int) (q : Int)).acc), .int .i64 ((markKeys (k : Int) (q : Int)).ast)] := hW3 ▸ Blk.new _ _ _
                    have hb3 : Below wr.heap.size wr W3 := hb2.trans (hW3 ▸ (alloc_here _ _).mono hb2.size)
                    have n0 : W3.cell? ⟨w2.heap.size, 0, none⟩ = some (.int .i64 ((markKeys (k : Int) (q : Int)).acc)) := b3.cell 0
                    have n1 : W3.cell? ⟨w2.heap.size, 1, none⟩ = some (.int .i64 ((markKeys (k : Int) (q : Int)).ast)) := b3.cell 1
                    rw [hW3]
                    clear hW3
                    have pe0 := cell_below hb3 e0
                    have pe1 := cell_below hb3 e1
                    have pc0 := cell_below hb3 c0
                    have pc1 := cell_below hb3 c1
                    go_quiet (fail)
                    have hb4 : Below wr.heap.size wr (W3.drewN nq) := ⟨hb3.os, hb3.tape, hb3.output, hb3.size, hb3.block⟩
                    go_wp2
                    go_roundw
                    case rel => exact ⟨q + 1, by omega, by go_num, hb.trans (hb4.mono hb.size)⟩
                    case measure => simp [intOf]; omega
                · obtain rfl : q = m k + 64 := by omega
                  go_wp2
                  go_roundw
                  case rel => exact ⟨k + 1, by omega, by go_num, hb⟩
                  case measure => simp [intOf]; omega
            · have hkN : N = k := by omega
              subst hkN
              go_wp2
              go_ret
              exact ⟨rfl, hbel.trans (hb.mono (by omega)), HKP.out.below hb⟩
end Go.Proofs.YtflkddllofeiaaaGreatDoor
