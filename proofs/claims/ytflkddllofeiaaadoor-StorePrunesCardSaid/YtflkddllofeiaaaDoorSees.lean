/- Store: the law's own sees. -/
import Derived.Test.YtflkddllofeiaaaDoorAsk
import Derived.Deep.RegionHeld3
namespace Go.Proofs.YtflkddllofeiaaaDoor
set_option linter.unusedSimpArgs false
set_option linter.unusedVariables false
open Go.RowKit Go.MapKept Go.ChangeMaps Go.Maps

theorem call_at {w : World} {B : Nat} {A : Option Addr} {cs : List CallV} (h : Reads w B 6 A cs.length (cs.flatMap CallV.cs)) {k : Nat} (hk : k < cs.length) :
    ∃ ad, A = some ad ∧ ad.block < B ∧ w.cell? (ad.add (k * 6)) = some (.int .i64 cs[k].on) ∧ w.cell? ⟨(ad.add (k * 6)).block, (ad.add (k * 6)).off + 1, none⟩ = some (.int .i64 cs[k].kind) ∧ w.cell? ⟨(ad.add (k * 6)).block, (ad.add (k * 6)).off + 2, none⟩ = some (.int .i64 cs[k].key.acc) ∧
      w.cell? ⟨(ad.add (k * 6)).block, (ad.add (k * 6)).off + 3, none⟩ = some (.int .i64 cs[k].key.ast) ∧ w.cell? ⟨(ad.add (k * 6)).block, (ad.add (k * 6)).off + 4, none⟩ = some (.int .i64 cs[k].n) ∧ w.cell? ⟨(ad.add (k * 6)).block, (ad.add (k * 6)).off + 5, none⟩ = some (.string cs[k].v) := by
  obtain ⟨ad, e, hb, h0, h1⟩ := Reads.elem CallV.len h hk
  exact ⟨ad, e, hb, h0 _ rfl, h1 1 _ (by omega) rfl, h1 2 _ (by omega) rfl, h1 3 _ (by omega) rfl, h1 4 _ (by omega) rfl, h1 5 _ (by omega) rfl⟩
/-- Two stores seen alike from n on. -/
def SeeN (s t : StV) (n : Int) : Prop := ∀ k m, n ≤ m → atV (getR s.rows k) m = atV (getR t.rows k) m ∧ decide (0 < leN (getR s.rows k) m) = decide (0 < leN (getR t.rows k) m)
set_option maxRecDepth 100000 in
set_option maxHeartbeats 4000000 in
theorem sees_calls (s t : StV) (cs : List CallV) (CA : Option Addr) (cc : Nat) (n : Int) (w : World) (hs : StAt w s) (ht : StAt w t) (hr : Reads w w.heap.size 6 CA cs.length (cs.flatMap CallV.cs)) (hl : cs.length ≤ 4611686018427387904) (hsee : SeeN s t n) :
    Calls Tryd.prog 16 #[.pointer (some ⟨s.p, 0, none⟩), .pointer (some ⟨t.p, 0, none⟩), .slice CA cs.length cc, .int .i64 n] w fun e w' => e = .returned (.bool true) ∧ Below w.heap.size w w' := by
  have HS := Lib.hid hs
  have HT := Lib.hid ht
  have HR := Lib.hid hr
  have HSEE := Lib.hid hsee
  clear hs ht hr hsee
  go_enter Tryd.func16, Tryd.ntmps16
  go_wp2_with (fail)
  go_loopw [9] (fun i wr => ∃ k : Nat, k ≤ cs.length ∧ i = .int .i64 k ∧ Below w.heap.size w wr) (fun i _ => cs.length - (intOf i).toNat)
  case atStart => exact ⟨0, by omega, rfl, Below.refl _ _⟩
  case round =>
    obtain ⟨k, hk, rfl, hb⟩ := hrel
    by_cases hlt : k < cs.length
    · have hkl : (k : Int) < cs.length := by omega
      obtain ⟨ad, rfl, hadb, k0, k1, k2, k3, k4, k5⟩ := call_at (HR.out.below hb) hlt
      obtain ⟨c, hc⟩ : ∃ c, cs[k] = c := ⟨_, rfl⟩
      rw [hc] at k2 k3 k4
      obtain ⟨key, hkey⟩ : ∃ q, c.key = q := ⟨_, rfl⟩
      obtain ⟨cn, hcn⟩ : ∃ q, c.n = q := ⟨_, rfl⟩
      rw [hkey] at k2 k3
      rw [hcn] at k4
      obtain ⟨m1, hm1⟩ : ∃ m, wrap64 (n + 1) = m := ⟨_, rfl⟩
      obtain ⟨m2, hm2⟩ : ∃ m, wrap64 (n + 7) = m := ⟨_, rfl⟩
      obtain ⟨gk, hgk⟩ : ∃ g, wr.heap.size = g := ⟨_, rfl⟩
      obtain ⟨W1, hW1⟩ : ∃ X, wr.alloc (.cells #[.int .i64 key.acc, .int .i64 key.ast] 23) = X := ⟨_, rfl⟩
      obtain ⟨W2, hW2⟩ : ∃ X, W1.alloc (.cells #[.int .i64 n, .int .i64 m1, .int .i64 m2, .int .i64 cn, .int .i64 9223372036854775807] 3) = X := ⟨_, rfl⟩
      have hs1 : W1.heap.size = gk + 1 := by rw [← hW1, ← hgk]; simp
      have hb1 : Below wr.heap.size wr W1 := hW1 ▸ (Below.refl _ _).alloc (Nat.le_refl _) _
      have hb2 : Below W1.heap.size W1 W2 := hW2 ▸ (Below.refl _ _).alloc (Nat.le_refl _) _
      have hbt : Below w.heap.size w W2 := hb.trans ((hb1.trans (hb2.mono hb1.size)).mono hb.size)
      have pk0 : Blk W1 gk 23 #[.int .i64 key.acc, .int .i64 key.ast] := by rw [← hW1, ← hgk]; exact Blk.new _ _ _
      have pk := pk0.below hb2 pk0.lt
      have pm : Blk W2 (gk + 1) 3 #[.int .i64 n, .int .i64 m1, .int .i64 m2, .int .i64 cn, .int .i64 9223372036854775807] := by rw [← hW2, ← hs1]; exact Blk.new _ _ _
      have hgk2 : w.heap.size ≤ gk := by rw [← hgk]; exact hb.size
      have HBT := Lib.hid hbt
      have HPK := Lib.hid pk
      have HPM := Lib.hid pm
      have HW1 := Lib.hid hW1
      have HW2 := Lib.hid hW2
      have HGK := Lib.hid hgk
      have HGK2 := Lib.hid hgk2
      have k4' : (wr.alloc (.cells #[.int .i64 key.acc, .int .i64 key.ast] 23)).cell? ⟨(ad.add (k * 6)).block, (ad.add (k * 6)).off + 4, none⟩ = some (.int .i64 cn) := by rw [hW1]; exact cell_below hb1 k4
      clear hbt pk pk0 pm hW1 hW2 hgk hgk2 hs1 hb1 hb2 hc hkey hcn hb
      go_wp2_with (fail)
      rw [HW1.out, HW2.out, HGK.out, hm1, hm2]
      clear hm1 hm2
      go_loopw [12] (fun i wr => ∃ j : Nat, j ≤ 5 ∧ i = .int .i64 j ∧ Below w.heap.size w wr ∧ Blk wr gk 23 #[.int .i64 key.acc, .int .i64 key.ast] ∧ Blk wr (gk + 1) 3 #[.int .i64 n, .int .i64 m1, .int .i64 m2, .int .i64 cn, .int .i64 9223372036854775807]) (fun i _ => 5 - (intOf i).toNat)
      case atStart => exact ⟨0, by omega, rfl, HBT.out, HPK.out, HPM.out⟩
      case round =>
        obtain ⟨j, hj, rfl, hb, pk, pm⟩ := hrel
        by_cases hj5 : j < 5
        · have hjl : (j : Int) < 5 := by omega
          obtain ⟨x, hx⟩ : ∃ x : Int, (#[.int .i64 n, .int .i64 m1, .int .i64 m2, .int .i64 cn, .int .i64 9223372036854775807] : Array Value)[j]? = some (.int .i64 x) := by
            obtain rfl | rfl | rfl | rfl | rfl : j = 0 ∨ j = 1 ∨ j = 2 ∨ j = 3 ∨ j = 4 := by omega
            · exact ⟨n, rfl⟩
            · exact ⟨m1, rfl⟩
            · exact ⟨m2, rfl⟩
            · exact ⟨cn, rfl⟩
            · exact ⟨_, rfl⟩
          have p0 : wr.cell? ⟨gk, 0, none⟩ = some (.int .i64 key.acc) := pk.cell 0
          have p1 : wr.cell? ⟨gk, 1, none⟩ = some (.int .i64 key.ast) := pk.cell 1
          have p2 : wr.cell? ⟨gk + 1, j, none⟩ = some (.int .i64 x) := (pm.cell j).trans hx
          have HX := Lib.hid hx
          have HB := Lib.hid hb
          have HPK2 := Lib.hid pk
          have HPM2 := Lib.hid pm
          by_cases hxn : x < n
          · clear hx hb pk pm
            go_wp2_with (fail)
            go_roundw
            case rel => exact ⟨j + 1, by omega, by go_num, HB.out, HPK2.out, HPM2.out⟩
            case measure => simp [intOf]; omega
          · have hxn2 : n ≤ x := by omega
            obtain ⟨h1, h2⟩ := HSEE.out key x hxn2
            have ha := fun (W : World) (hW : Below w.heap.size w W) => atS_calls s key x W (HS.out.below hW)
            have ht := fun (W : World) (hW : Below w.heap.size w W) => atS_calls t key x W (HT.out.below hW)
            rw [h1, h2] at ha
            obtain ⟨v, hv⟩ : ∃ v, atV (getR t.rows key) x = v := ⟨_, rfl⟩
            obtain ⟨b, hbb⟩ : ∃ b, decide (0 < leN (getR t.rows key) x) = b := ⟨_, rfl⟩
            simp only [hv, hbb] at ha ht
            have HA := Lib.hid ha
            have HAT := Lib.hid ht
            clear ha ht hv hbb h1 h2 hx hb pk pm
            go_wp2_with (fail)
            go_region_held3 (fun w' => w'.cell? ⟨gk, 0, none⟩ = some (.int .i64 key.acc) ∧ w'.cell? ⟨gk, 1, none⟩ = some (.int .i64 key.ast) ∧ w'.cell? ⟨gk + 1, j, none⟩ = some (.int .i64 x))
            (first | go_keep | fail)
            ((go_at_call 25; refine (HA.out wr.drew (HB.out.drew)).mono ?_; rintro e w4 ⟨rfl, hbw4⟩; have q0 : w4.cell? ⟨gk, 0, none⟩ = some (.int .i64 key.acc) := cell_below (w := wr.drew) hbw4 p0; have q1 : w4.cell? ⟨gk, 1, none⟩ = some (.int .i64 key.ast) := cell_below (w := wr.drew) hbw4 p1; have q2 : w4.cell? ⟨gk + 1, j, none⟩ = some (.int .i64 x) := cell_below (w := wr.drew) hbw4 p2; have HBw4 := Lib.hid hbw4; clear hbw4))
            have HB4 := Lib.hid (HB.out.trans (((Below.refl _ _).drew (a := wr)).trans HBw4.out |>.mono HB.out.size))
            have HPK4 := Lib.hid (HPK2.out.below (((Below.refl _ _).drew (a := wr)).trans HBw4.out) HPK2.out.lt)
            have HPM4 := Lib.hid (HPM2.out.below (((Below.refl _ _).drew (a := wr)).trans HBw4.out) HPM2.out.lt)
            clear p0 p1 p2
            go_wp2_with (fail)
            go_region_held3 (fun w' => w'.cell? ⟨gk, 0, none⟩ = some (.int .i64 key.acc) ∧ w'.cell? ⟨gk, 1, none⟩ = some (.int .i64 key.ast) ∧ w'.cell? ⟨gk + 1, j, none⟩ = some (.int .i64 x))
            (first | go_keep | fail)
            ((go_at_call 25; refine (HAT.out w4.drew (HB4.out.drew)).mono ?_; rintro e w5 ⟨rfl, hbw5⟩; have o0 : w5.cell? ⟨gk, 0, none⟩ = some (.int .i64 key.acc) := cell_below (w := w4.drew) hbw5 q0; have o1 : w5.cell? ⟨gk, 1, none⟩ = some (.int .i64 key.ast) := cell_below (w := w4.drew) hbw5 q1; have o2 : w5.cell? ⟨gk + 1, j, none⟩ = some (.int .i64 x) := cell_below (w := w4.drew) hbw5 q2; have HBw5 := Lib.hid hbw5; clear hbw5))
            have HB5 := Lib.hid (HB4.out.trans (((Below.refl _ _).drew (a := w4)).trans HBw5.out |>.mono HB4.out.size))
            have HPK5 := Lib.hid (HPK4.out.below (((Below.refl _ _).drew (a := w4)).trans HBw5.out) HPK4.out.lt)
            have HPM5 := Lib.hid (HPM4.out.below (((Below.refl _ _).drew (a := w4)).trans HBw5.out) HPM4.out.lt)
            clear q0 q1 q2 o0 o1 o2
            go_wp2_with (fail)
            go_roundw
            case rel => exact ⟨j + 1, by omega, by go_num, HB5.out, HPK5.out, HPM5.out⟩
            case measure => simp [intOf]; omega
        · obtain rfl : j = 5 := by omega
          have HB := Lib.hid hb
          clear hb pk pm
          go_wp2_with (fail)
          go_roundw
          case rel => exact ⟨k + 1, by omega, by go_num, HB.out⟩
          case measure => simp [intOf]; omega
    · obtain rfl : k = cs.length := by omega
      have HB := Lib.hid hb
      clear hb
      go_wp2
      go_ret
      exact ⟨rfl, HB.out⟩
end Go.Proofs.YtflkddllofeiaaaDoor
