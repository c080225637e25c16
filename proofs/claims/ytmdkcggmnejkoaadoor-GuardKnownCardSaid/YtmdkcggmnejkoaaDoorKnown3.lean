/- custodylaw16.knownFields (of the closed law GuardKnown) by a contract (printed by gen_known3.py). -/
import Derived.Test.YtmdkcggmnejkoaaDoorKnown
import Derived.Test.YtmdkcggmnejkoaaDoorCheckLaw
import Derived.Test.YtmdkcggmnejkoaaDoorOwn
import Derived.Deep.DeepCutAuto
import Derived.Deep.CutBlock
namespace Go.Proofs.YtmdkcggmnejkoaaDoor
set_option linter.unusedSimpArgs false
set_option linter.unusedVariables false
open Go.RowKit

def five (w : World) (t : TypeId) (o1 o2 o3 o4 o5 : Array Value) : World := ((((w.alloc (.cells o1 t)).alloc (.cells o2 t)).alloc (.cells o3 t)).alloc (.cells o4 t)).alloc (.cells o5 t)
theorem five_facts (w : World) (t : TypeId) (o1 o2 o3 o4 o5 : Array Value) : Blk (five w t o1 o2 o3 o4 o5) w.heap.size t o1 ∧ Blk (five w t o1 o2 o3 o4 o5) (w.heap.size + 1) t o2 ∧ Blk (five w t o1 o2 o3 o4 o5) (w.heap.size + 1 + 1) t o3 ∧ Blk (five w t o1 o2 o3 o4 o5) (w.heap.size + 1 + 1 + 1) t o4 ∧ Blk (five w t o1 o2 o3 o4 o5) (w.heap.size + 1 + 1 + 1 + 1) t o5 ∧ Below w.heap.size w (five w t o1 o2 o3 o4 o5) := by
  have h1 := Blk.new w t o1
  have h2 := Blk.new (w.alloc (.cells o1 t)) t o2
  have h3 := Blk.new ((w.alloc (.cells o1 t)).alloc (.cells o2 t)) t o3
  have h4 := Blk.new (((w.alloc (.cells o1 t)).alloc (.cells o2 t)).alloc (.cells o3 t)) t o4
  have h5 := Blk.new ((((w.alloc (.cells o1 t)).alloc (.cells o2 t)).alloc (.cells o3 t)).alloc (.cells o4 t)) t o5
  have s1 : ∀ (v : World) (o : Obj), (v.alloc o).heap.size = v.heap.size + 1 := fun v o => by simp
  simp only [s1] at h2 h3 h4 h5
  exact ⟨(((h1.alloc _).alloc _).alloc _).alloc _, ((h2.alloc _).alloc _).alloc _, (h3.alloc _).alloc _, h4.alloc _, h5, (((((Below.refl _ _).alloc (Nat.le_refl _) _).alloc (by simp) _).alloc (by simp; omega) _).alloc (by simp; omega) _).alloc (by simp; omega) _⟩

set_option maxRecDepth 100000 in
set_option maxHeartbeats 8000000 in
theorem knownFields_calls (w : World) (hG : HG w) : Calls Tryd.prog 35 #[] w fun e w' => e = .returned (.bool true) ∧ Below w.heap.size w w' := by
  obtain ⟨gc, hgc⟩ : ∃ g, w.heap.size = g := ⟨_, rfl⟩
  go_enter Tryd.func35, Tryd.ntmps35
  go_wp2_with (fail)
  go_loopw [3] (fun j wr => ∃ c : Int, -1 ≤ c ∧ c ≤ 10 ∧ j = .int .i64 c ∧ Blk wr gc 23 #[.int .i64 3, .int .i64 2, .int .i64 0, .int .i64 0, .int .i64 0] ∧ Blk wr (gc + 1) 3 (intsC [-9223372036854775808, -1, 0, 1, 2, 3, 65535, 65536, 65537, 1099511627776, 1099511627777, 9223372036854775807]).toArray ∧ Below w.heap.size w wr) (fun j _ => (12 - intOf j).toNat)
  case atStart =>
    refine ⟨-1, by omega, by omega, rfl, hgc ▸ (Blk.new _ _ _).alloc _, ?_, ((Below.refl _ _).alloc (Nat.le_refl _) _).alloc (by simp) _⟩
    have h := Blk.new (w.alloc (.cells #[.int .i64 3, .int .i64 2, .int .i64 0, .int .i64 0, .int .i64 0] 23)) 3 (intsC [-9223372036854775808, -1, 0, 1, 2, 3, 65535, 65536, 65537, 1099511627776, 1099511627777, 9223372036854775807]).toArray
    rw [show (w.alloc (.cells #[.int .i64 3, .int .i64 2, .int .i64 0, .int .i64 0, .int .i64 0] 23)).heap.size = w.heap.size + 1 by simp] at h
    rw [← hgc]
    exact h
  case round =>
    obtain ⟨c, hc0, hc1, rfl, hC, hE, B⟩ := hrel
    by_cases hlt : c ≤ 9
    · by_cases h5 : c = 5
      · subst h5
        go_wp2_with (fail)
        go_roundw
        case rel => exact ⟨6, by omega, by omega, by go_num, hC, hE, B⟩
        case measure => simp [intOf]
      · have h5' : (c == 5) = false := beq_eq_false_iff_ne.2 h5
        go_wp2_with (fail)
        go_loopw [4] (fun j wr => ∃ i : Nat, i ≤ 12 ∧ j = .int .i64 i ∧ Blk wr gc 23 #[.int .i64 3, .int .i64 2, .int .i64 0, .int .i64 0, .int .i64 0] ∧ Blk wr (gc + 1) 3 (intsC [-9223372036854775808, -1, 0, 1, 2, 3, 65535, 65536, 65537, 1099511627776, 1099511627777, 9223372036854775807]).toArray ∧ Below w.heap.size w wr) (fun j _ => 12 - (intOf j).toNat)
        case atStart => exact ⟨0, by omega, rfl, hC, hE, B⟩
        case round =>
          clear B hE hC
          obtain ⟨i, hi, rfl, hC, hE, B⟩ := hrel
          by_cases hlt2 : i < 12
          · have hil : (i : Int) < 12 := by omega
            obtain ⟨x, cx⟩ := ints_cell hE (i := i) hlt2
            have HE := Lib.hid hE
            have HC := Lib.hid hC
            clear hE hC
            go_wp2_with (fail)
            go_loopw [6] (fun j wr => ∃ k : Nat, k ≤ 16 ∧ j = .int .i64 k ∧ Blk wr gc 23 #[.int .i64 3, .int .i64 2, .int .i64 0, .int .i64 0, .int .i64 0] ∧ Blk wr (gc + 1) 3 (intsC [-9223372036854775808, -1, 0, 1, 2, 3, 65535, 65536, 65537, 1099511627776, 1099511627777, 9223372036854775807]).toArray ∧ Below w.heap.size w wr) (fun j _ => 16 - (intOf j).toNat)
            case atStart => exact ⟨0, by omega, rfl, HC.out, HE.out, B⟩
            case round =>
              clear B HE HC cx
              obtain ⟨k, hk, rfl, hC, hE, B⟩ := hrel
              by_cases hlt3 : k < 16
              · have hkl : (k : Int) < 16 := by omega
                obtain ⟨g7, hg7⟩ : ∃ g, wr.heap.size = g := ⟨_, rfl⟩
                have hk0 : (0 : Int) ≤ (k : Int) := by omega
                have HE := Lib.hid hE
                have HC := Lib.hid hC
                clear hE hC
                go_upto_if 43 with fail
                obtain ⟨W, hW⟩ : ∃ W, wr.alloc (.cells (opCs c 2 1 1 1 1 nilS nilS) 33) = W := ⟨_, rfl⟩
                have hO : ∃ a b q n : Int, Blk W g7 33 (opCs c a b q n 1 nilS nilS) := ⟨2, 1, 1, 1, by rw [← hW, ← hg7]; exact Blk.new _ _ _⟩
                have hC := hW ▸ HC.out.alloc (.cells (opCs c 2 1 1 1 1 nilS nilS) 33)
                have hE := hW ▸ HE.out.alloc (.cells (opCs c 2 1 1 1 1 nilS nilS) 33)
                have hB : Below w.heap.size w W := hW ▸ B.alloc B.size _
                have s7 : gc + 1 < g7 := by have := HE.out.lt; omega
                simp only [opCs] at hW
                rw [hW]
                clear hW HE HC B hg7
                go_cut [] (fun wd => (∃ a b q n : Int, Blk wd g7 33 (opCs c a b q n 1 nilS nilS)) ∧ Blk wd gc 23 #[.int .i64 3, .int .i64 2, .int .i64 0, .int .i64 0, .int .i64 0] ∧ Blk wd (gc + 1) 3 (intsC [-9223372036854775808, -1, 0, 1, 2, 3, 65535, 65536, 65537, 1099511627776, 1099511627777, 9223372036854775807]).toArray ∧ Below w.heap.size w wd)
                case first =>
                  obtain ⟨a, b, q, n, hO⟩ := hO
                  have c0 : W.cell? ⟨g7, 2, none⟩ = some (.int .i64 b) := hO.cell 2
                  have z0 : W.frozen? ⟨g7, 2, none⟩ = false := hO.frozen 2
                  have HO := Lib.hid hO
                  have HC := Lib.hid hC
                  have HE := Lib.hid hE
                  clear hO hC hE
                  by_cases hk1 : (k : Int) % 2 = 1
                  · have hk2 : ((k : Int) % 2 == 1) = true := beq_iff_eq.2 hk1
                    go_wp2
                    go_meet
                    case rel => exact ⟨⟨a, 2, q, n, HO.out.set_ 2 _⟩, HC.out.far (by show gc ≠ g7; omega) _, HE.out.far (by show gc + 1 ≠ g7; omega) _, hB.setCell (by show w.heap.size ≤ g7; omega) _⟩
                  · have hk2 : ((k : Int) % 2 == 1) = false := beq_eq_false_iff_ne.2 hk1
                    go_wp2
                    go_meet
                    case rel => exact ⟨⟨a, b, q, n, HO.out⟩, HC.out, HE.out, hB⟩
                case rest =>
                  clear hO hC hE hB
                  obtain ⟨hO, hC, hE, hB⟩ := hcut
                  go_upto_if 48 with fail
                  go_cut [] (fun wd => (∃ a b q n : Int, Blk wd g7 33 (opCs c a b q n 1 nilS nilS)) ∧ Blk wd gc 23 #[.int .i64 3, .int .i64 2, .int .i64 0, .int .i64 0, .int .i64 0] ∧ Blk wd (gc + 1) 3 (intsC [-9223372036854775808, -1, 0, 1, 2, 3, 65535, 65536, 65537, 1099511627776, 1099511627777, 9223372036854775807]).toArray ∧ Below w.heap.size w wd)
                  case first =>
                    obtain ⟨a, b, q, n, hO⟩ := hO
                    have c0 : wc.cell? ⟨g7, 3, none⟩ = some (.int .i64 q) := hO.cell 3
                    have z0 : wc.frozen? ⟨g7, 3, none⟩ = false := hO.frozen 3
                    have HO := Lib.hid hO
                    have HC := Lib.hid hC
                    have HE := Lib.hid hE
                    clear hO hC hE
                    by_cases hk1 : (k : Int) / 2 % 2 = 1
                    · have hk2 : ((k : Int) / 2 % 2 == 1) = true := beq_iff_eq.2 hk1
                      go_wp2
                      go_meet
                      case rel => exact ⟨⟨a, b, 0, n, HO.out.set_ 3 _⟩, HC.out.far (by show gc ≠ g7; omega) _, HE.out.far (by show gc + 1 ≠ g7; omega) _, hB.setCell (by show w.heap.size ≤ g7; omega) _⟩
                    · have hk2 : ((k : Int) / 2 % 2 == 1) = false := beq_eq_false_iff_ne.2 hk1
                      go_wp2
                      go_meet
                      case rel => exact ⟨⟨a, b, q, n, HO.out⟩, HC.out, HE.out, hB⟩
                  case rest =>
                    clear hO hC hE hB
                    obtain ⟨hO, hC, hE, hB⟩ := hcut
                    go_upto_if 53 with fail
                    go_cut [] (fun wd => (∃ a b q n : Int, Blk wd g7 33 (opCs c a b q n 1 nilS nilS)) ∧ Blk wd gc 23 #[.int .i64 3, .int .i64 2, .int .i64 0, .int .i64 0, .int .i64 0] ∧ Blk wd (gc + 1) 3 (intsC [-9223372036854775808, -1, 0, 1, 2, 3, 65535, 65536, 65537, 1099511627776, 1099511627777, 9223372036854775807]).toArray ∧ Below w.heap.size w wd)
                    case first =>
                      obtain ⟨a, b, q, n, hO⟩ := hO
                      have c0 : wc.cell? ⟨g7, 4, none⟩ = some (.int .i64 n) := hO.cell 4
                      have z0 : wc.frozen? ⟨g7, 4, none⟩ = false := hO.frozen 4
                      have HO := Lib.hid hO
                      have HC := Lib.hid hC
                      have HE := Lib.hid hE
                      clear hO hC hE
                      by_cases hk1 : (k : Int) / 4 % 2 = 1
                      · have hk2 : ((k : Int) / 4 % 2 == 1) = true := beq_iff_eq.2 hk1
                        go_wp2
                        go_meet
                        case rel => exact ⟨⟨a, b, q, 0, HO.out.set_ 4 _⟩, HC.out.far (by show gc ≠ g7; omega) _, HE.out.far (by show gc + 1 ≠ g7; omega) _, hB.setCell (by show w.heap.size ≤ g7; omega) _⟩
                      · have hk2 : ((k : Int) / 4 % 2 == 1) = false := beq_eq_false_iff_ne.2 hk1
                        go_wp2
                        go_meet
                        case rel => exact ⟨⟨a, b, q, n, HO.out⟩, HC.out, HE.out, hB⟩
                    case rest =>
                      clear hO hC hE hB
                      obtain ⟨hO, hC, hE, hB⟩ := hcut
                      go_upto_if 58 with fail
                      go_cut [] (fun wd => (∃ a b q n : Int, Blk wd g7 33 (opCs c a b q n 1 nilS nilS)) ∧ Blk wd gc 23 #[.int .i64 3, .int .i64 2, .int .i64 0, .int .i64 0, .int .i64 0] ∧ Blk wd (gc + 1) 3 (intsC [-9223372036854775808, -1, 0, 1, 2, 3, 65535, 65536, 65537, 1099511627776, 1099511627777, 9223372036854775807]).toArray ∧ Below w.heap.size w wd)
                      case first =>
                        obtain ⟨a, b, q, n, hO⟩ := hO
                        have c0 : wc.cell? ⟨g7, 1, none⟩ = some (.int .i64 a) := hO.cell 1
                        have z0 : wc.frozen? ⟨g7, 1, none⟩ = false := hO.frozen 1
                        have HO := Lib.hid hO
                        have HC := Lib.hid hC
                        have HE := Lib.hid hE
                        clear hO hC hE
                        by_cases hk1 : (k : Int) / 8 % 2 = 1
                        · have hk2 : ((k : Int) / 8 % 2 == 1) = true := beq_iff_eq.2 hk1
                          go_wp2
                          go_meet
                          case rel => exact ⟨⟨3, b, q, n, HO.out.set_ 1 _⟩, HC.out.far (by show gc ≠ g7; omega) _, HE.out.far (by show gc + 1 ≠ g7; omega) _, hB.setCell (by show w.heap.size ≤ g7; omega) _⟩
                        · have hk2 : ((k : Int) / 8 % 2 == 1) = false := beq_eq_false_iff_ne.2 hk1
                          go_wp2
                          go_meet
                          case rel => exact ⟨⟨a, b, q, n, HO.out⟩, HC.out, HE.out, hB⟩
                      case rest =>
                        clear hO hC hE hB
                        obtain ⟨hO, hC, hE, hB⟩ := hcut
                        obtain ⟨a, b, q, n, hO⟩ := hO
                        obtain ⟨g8, hg8⟩ : ∃ g, wc.heap.size = g := ⟨_, rfl⟩
                        have d0 : wc.cell? ⟨g7, 0, none⟩ = some (.int .i64 c) := hO.cell 0
                        have d1 : wc.cell? ⟨g7, 1, none⟩ = some (.int .i64 a) := hO.cell 1
                        have d2 : wc.cell? ⟨g7, 2, none⟩ = some (.int .i64 b) := hO.cell 2
                        have d3 : wc.cell? ⟨g7, 3, none⟩ = some (.int .i64 q) := hO.cell 3
                        have d4 : wc.cell? ⟨g7, 4, none⟩ = some (.int .i64 n) := hO.cell 4
                        have d5 : wc.cell? ⟨g7, 5, none⟩ = some (.int .i64 1) := hO.cell 5
                        have d6 : wc.cell? ⟨g7, 6, none⟩ = some (nilS) := hO.cell 6
                        have d7 : wc.cell? ⟨g7, 7, none⟩ = some (nilS) := hO.cell 7
                        have d0' := fun o0 => cell_alloc (d0 ) o0
                        have d1' := fun o0 => cell_alloc (d1 ) o0
                        have d2' := fun o0 => cell_alloc (d2 ) o0
                        have d3' := fun o0 => cell_alloc (d3 ) o0
                        have d4' := fun o0 => cell_alloc (d4 ) o0
                        have d5' := fun o0 => cell_alloc (d5 ) o0
                        have d6' := fun o0 => cell_alloc (d6 ) o0
                        have d7' := fun o0 => cell_alloc (d7 ) o0
                        have d0'' := fun o0 o1 => cell_alloc (d0' o0) o1
                        have d1'' := fun o0 o1 => cell_alloc (d1' o0) o1
                        have d2'' := fun o0 o1 => cell_alloc (d2' o0) o1
                        have d3'' := fun o0 o1 => cell_alloc (d3' o0) o1
                        have d4'' := fun o0 o1 => cell_alloc (d4' o0) o1
                        have d5'' := fun o0 o1 => cell_alloc (d5' o0) o1
                        have d6'' := fun o0 o1 => cell_alloc (d6' o0) o1
                        have d7'' := fun o0 o1 => cell_alloc (d7' o0) o1
                        have d0''' := fun o0 o1 o2 => cell_alloc (d0'' o0 o1) o2
                        have d1''' := fun o0 o1 o2 => cell_alloc (d1'' o0 o1) o2
                        have d2''' := fun o0 o1 o2 => cell_alloc (d2'' o0 o1) o2
                        have d3''' := fun o0 o1 o2 => cell_alloc (d3'' o0 o1) o2
                        have d4''' := fun o0 o1 o2 => cell_alloc (d4'' o0 o1) o2
                        have d5''' := fun o0 o1 o2 => cell_alloc (d5'' o0 o1) o2
                        have d6''' := fun o0 o1 o2 => cell_alloc (d6'' o0 o1) o2
                        have d7''' := fun o0 o1 o2 => cell_alloc (d7'' o0 o1) o2
                        have d0'''' := fun o0 o1 o2 o3 => cell_alloc (d0''' o0 o1 o2) o3
                        have d1'''' := fun o0 o1 o2 o3 => cell_alloc (d1''' o0 o1 o2) o3
                        have d2'''' := fun o0 o1 o2 o3 => cell_alloc (d2''' o0 o1 o2) o3
                        have d3'''' := fun o0 o1 o2 o3 => cell_alloc (d3''' o0 o1 o2) o3
                        have d4'''' := fun o0 o1 o2 o3 => cell_alloc (d4''' o0 o1 o2) o3
                        have d5'''' := fun o0 o1 o2 o3 => cell_alloc (d5''' o0 o1 o2) o3
                        have d6'''' := fun o0 o1 o2 o3 => cell_alloc (d6''' o0 o1 o2) o3
                        have d7'''' := fun o0 o1 o2 o3 => cell_alloc (d7''' o0 o1 o2) o3
                        obtain ⟨W5, hW5⟩ : ∃ W, five wc 33 (opCs c x b q n 1 nilS nilS) (opCs c a x q n 1 nilS nilS) (opCs c a b x n 1 nilS nilS) (opCs c a b q x 1 nilS nilS) (opCs c a b q n x nilS nilS) = W := ⟨_, rfl⟩
                        obtain ⟨f0, f1, f2, f3, f4, f5⟩ := five_facts wc 33 (opCs c x b q n 1 nilS nilS) (opCs c a x q n 1 nilS nilS) (opCs c a b x n 1 nilS nilS) (opCs c a b q x 1 nilS nilS) (opCs c a b q n x nilS nilS)
                        rw [hW5, hg8] at f0 f1 f2 f3 f4
                        rw [hW5] at f5
                        have HC := Lib.hid (hC.below f5 hC.lt)
                        have HE := Lib.hid (hE.below f5 hE.lt)
                        have HB := Lib.hid (hB.trans (f5.mono hB.size))
                        have F0 := Lib.hid f0
                        have F1 := Lib.hid f1
                        have F2 := Lib.hid f2
                        have F3 := Lib.hid f3
                        have F4 := Lib.hid f4
                        unfold five at hW5
                        simp only [opCs] at hW5
                        clear f0 f1 f2 f3 f4 f5 hO hC hE hB
                        have k0 : W5.cell? ⟨gc, 0, none⟩ = some (.int .i64 3) := HC.out.cell 0
                        have k1 : W5.cell? ⟨gc, 1, none⟩ = some (.int .i64 2) := HC.out.cell 1
                        have k2 : W5.cell? ⟨gc, 2, none⟩ = some (.int .i64 0) := HC.out.cell 2
                        have k3 : W5.cell? ⟨gc, 3, none⟩ = some (.int .i64 0) := HC.out.cell 3
                        have k4 : W5.cell? ⟨gc, 4, none⟩ = some (.int .i64 0) := HC.out.cell 4
                        have x0 : W5.cell? ⟨g8, 0, none⟩ = some (.int .i64 c) := F0.out.cell 0
                        have x1 : W5.cell? ⟨g8, 1, none⟩ = some (.int .i64 x) := F0.out.cell 1
                        have x2 : W5.cell? ⟨g8, 2, none⟩ = some (.int .i64 b) := F0.out.cell 2
                        have x3 : W5.cell? ⟨g8, 3, none⟩ = some (.int .i64 q) := F0.out.cell 3
                        have x4 : W5.cell? ⟨g8, 4, none⟩ = some (.int .i64 n) := F0.out.cell 4
                        have x5 : W5.cell? ⟨g8, 5, none⟩ = some (.int .i64 1) := F0.out.cell 5
                        have x6 : W5.cell? ⟨g8, 6, none⟩ = some (.slice none 0 0) := F0.out.cell 6
                        have x7 : W5.cell? ⟨g8, 7, none⟩ = some (.slice none 0 0) := F0.out.cell 7
                        go_wp2_with (fail)
                        refine (lawCheck_calls 3 2 0 0 0 ⟨c, x, b, q, n, 1, [], []⟩ none none 0 0 W5 Reads.none_ Reads.none_ (by simp) (by simp) (hG.below HB.out)).mono ?_
                        rintro e v0 ⟨rfl, hbz⟩
                        clear hW5 hg8 d0 d1 d2 d3 d4 d5 d6 d7 d0' d1' d2' d3' d4' d5' d6' d7' d0'' d1'' d2'' d3'' d4'' d5'' d6'' d7'' d0''' d1''' d2''' d3''' d4''' d5''' d6''' d7''' d0'''' d1'''' d2'''' d3'''' d4'''' d5'''' d6'''' d7''''
                        clear k0 k1 k2 k3 k4 x0 x1 x2 x3 x4 x5 x6 x7
                        replace HC := Lib.hid (HC.out.below hbz HC.out.lt)
                        replace HE := Lib.hid (HE.out.below hbz HE.out.lt)
                        replace F1 := Lib.hid (F1.out.below hbz F1.out.lt)
                        replace F2 := Lib.hid (F2.out.below hbz F2.out.lt)
                        replace F3 := Lib.hid (F3.out.below hbz F3.out.lt)
                        replace F4 := Lib.hid (F4.out.below hbz F4.out.lt)
                        replace HB := Lib.hid (HB.out.trans (hbz.mono HB.out.size))
                        clear hbz
                        have k0 : v0.cell? ⟨gc, 0, none⟩ = some (.int .i64 3) := HC.out.cell 0
                        have k1 : v0.cell? ⟨gc, 1, none⟩ = some (.int .i64 2) := HC.out.cell 1
                        have k2 : v0.cell? ⟨gc, 2, none⟩ = some (.int .i64 0) := HC.out.cell 2
                        have k3 : v0.cell? ⟨gc, 3, none⟩ = some (.int .i64 0) := HC.out.cell 3
                        have k4 : v0.cell? ⟨gc, 4, none⟩ = some (.int .i64 0) := HC.out.cell 4
                        have x0 : v0.cell? ⟨g8 + 1, 0, none⟩ = some (.int .i64 c) := F1.out.cell 0
                        have x1 : v0.cell? ⟨g8 + 1, 1, none⟩ = some (.int .i64 a) := F1.out.cell 1
                        have x2 : v0.cell? ⟨g8 + 1, 2, none⟩ = some (.int .i64 x) := F1.out.cell 2
                        have x3 : v0.cell? ⟨g8 + 1, 3, none⟩ = some (.int .i64 q) := F1.out.cell 3
                        have x4 : v0.cell? ⟨g8 + 1, 4, none⟩ = some (.int .i64 n) := F1.out.cell 4
                        have x5 : v0.cell? ⟨g8 + 1, 5, none⟩ = some (.int .i64 1) := F1.out.cell 5
                        have x6 : v0.cell? ⟨g8 + 1, 6, none⟩ = some (.slice none 0 0) := F1.out.cell 6
                        have x7 : v0.cell? ⟨g8 + 1, 7, none⟩ = some (.slice none 0 0) := F1.out.cell 7
                        go_wp2_with (fail)
                        refine (lawCheck_calls 3 2 0 0 0 ⟨c, a, x, q, n, 1, [], []⟩ none none 0 0 v0 Reads.none_ Reads.none_ (by simp) (by simp) (hG.below HB.out)).mono ?_
                        rintro e v1 ⟨rfl, hbz⟩
                        clear k0 k1 k2 k3 k4 x0 x1 x2 x3 x4 x5 x6 x7
                        replace HC := Lib.hid (HC.out.below hbz HC.out.lt)
                        replace HE := Lib.hid (HE.out.below hbz HE.out.lt)
                        replace F2 := Lib.hid (F2.out.below hbz F2.out.lt)
                        replace F3 := Lib.hid (F3.out.below hbz F3.out.lt)
                        replace F4 := Lib.hid (F4.out.below hbz F4.out.lt)
                        replace HB := Lib.hid (HB.out.trans (hbz.mono HB.out.size))
                        clear hbz
                        have k0 : v1.cell? ⟨gc, 0, none⟩ = some (.int .i64 3) := HC.out.cell 0
                        have k1 : v1.cell? ⟨gc, 1, none⟩ = some (.int .i64 2) := HC.out.cell 1
                        have k2 : v1.cell? ⟨gc, 2, none⟩ = some (.int .i64 0) := HC.out.cell 2
                        have k3 : v1.cell? ⟨gc, 3, none⟩ = some (.int .i64 0) := HC.out.cell 3
                        have k4 : v1.cell? ⟨gc, 4, none⟩ = some (.int .i64 0) := HC.out.cell 4
                        have x0 : v1.cell? ⟨g8 + 1 + 1, 0, none⟩ = some (.int .i64 c) := F2.out.cell 0
                        have x1 : v1.cell? ⟨g8 + 1 + 1, 1, none⟩ = some (.int .i64 a) := F2.out.cell 1
                        have x2 : v1.cell? ⟨g8 + 1 + 1, 2, none⟩ = some (.int .i64 b) := F2.out.cell 2
                        have x3 : v1.cell? ⟨g8 + 1 + 1, 3, none⟩ = some (.int .i64 x) := F2.out.cell 3
                        have x4 : v1.cell? ⟨g8 + 1 + 1, 4, none⟩ = some (.int .i64 n) := F2.out.cell 4
                        have x5 : v1.cell? ⟨g8 + 1 + 1, 5, none⟩ = some (.int .i64 1) := F2.out.cell 5
                        have x6 : v1.cell? ⟨g8 + 1 + 1, 6, none⟩ = some (.slice none 0 0) := F2.out.cell 6
                        have x7 : v1.cell? ⟨g8 + 1 + 1, 7, none⟩ = some (.slice none 0 0) := F2.out.cell 7
                        go_wp2_with (fail)
                        refine (lawCheck_calls 3 2 0 0 0 ⟨c, a, b, x, n, 1, [], []⟩ none none 0 0 v1 Reads.none_ Reads.none_ (by simp) (by simp) (hG.below HB.out)).mono ?_
                        rintro e v2 ⟨rfl, hbz⟩
                        clear k0 k1 k2 k3 k4 x0 x1 x2 x3 x4 x5 x6 x7
                        replace HC := Lib.hid (HC.out.below hbz HC.out.lt)
                        replace HE := Lib.hid (HE.out.below hbz HE.out.lt)
                        replace F3 := Lib.hid (F3.out.below hbz F3.out.lt)
                        replace F4 := Lib.hid (F4.out.below hbz F4.out.lt)
                        replace HB := Lib.hid (HB.out.trans (hbz.mono HB.out.size))
                        clear hbz
                        have k0 : v2.cell? ⟨gc, 0, none⟩ = some (.int .i64 3) := HC.out.cell 0
                        have k1 : v2.cell? ⟨gc, 1, none⟩ = some (.int .i64 2) := HC.out.cell 1
                        have k2 : v2.cell? ⟨gc, 2, none⟩ = some (.int .i64 0) := HC.out.cell 2
                        have k3 : v2.cell? ⟨gc, 3, none⟩ = some (.int .i64 0) := HC.out.cell 3
                        have k4 : v2.cell? ⟨gc, 4, none⟩ = some (.int .i64 0) := HC.out.cell 4
                        have x0 : v2.cell? ⟨g8 + 1 + 1 + 1, 0, none⟩ = some (.int .i64 c) := F3.out.cell 0
                        have x1 : v2.cell? ⟨g8 + 1 + 1 + 1, 1, none⟩ = some (.int .i64 a) := F3.out.cell 1
                        have x2 : v2.cell? ⟨g8 + 1 + 1 + 1, 2, none⟩ = some (.int .i64 b) := F3.out.cell 2
                        have x3 : v2.cell? ⟨g8 + 1 + 1 + 1, 3, none⟩ = some (.int .i64 q) := F3.out.cell 3
                        have x4 : v2.cell? ⟨g8 + 1 + 1 + 1, 4, none⟩ = some (.int .i64 x) := F3.out.cell 4
                        have x5 : v2.cell? ⟨g8 + 1 + 1 + 1, 5, none⟩ = some (.int .i64 1) := F3.out.cell 5
                        have x6 : v2.cell? ⟨g8 + 1 + 1 + 1, 6, none⟩ = some (.slice none 0 0) := F3.out.cell 6
                        have x7 : v2.cell? ⟨g8 + 1 + 1 + 1, 7, none⟩ = some (.slice none 0 0) := F3.out.cell 7
                        go_wp2_with (fail)
                        refine (lawCheck_calls 3 2 0 0 0 ⟨c, a, b, q, x, 1, [], []⟩ none none 0 0 v2 Reads.none_ Reads.none_ (by simp) (by simp) (hG.below HB.out)).mono ?_
                        rintro e v3 ⟨rfl, hbz⟩
                        clear k0 k1 k2 k3 k4 x0 x1 x2 x3 x4 x5 x6 x7
                        replace HC := Lib.hid (HC.out.below hbz HC.out.lt)
                        replace HE := Lib.hid (HE.out.below hbz HE.out.lt)
                        replace F4 := Lib.hid (F4.out.below hbz F4.out.lt)
                        replace HB := Lib.hid (HB.out.trans (hbz.mono HB.out.size))
                        clear hbz
                        have k0 : v3.cell? ⟨gc, 0, none⟩ = some (.int .i64 3) := HC.out.cell 0
                        have k1 : v3.cell? ⟨gc, 1, none⟩ = some (.int .i64 2) := HC.out.cell 1
                        have k2 : v3.cell? ⟨gc, 2, none⟩ = some (.int .i64 0) := HC.out.cell 2
                        have k3 : v3.cell? ⟨gc, 3, none⟩ = some (.int .i64 0) := HC.out.cell 3
                        have k4 : v3.cell? ⟨gc, 4, none⟩ = some (.int .i64 0) := HC.out.cell 4
                        have x0 : v3.cell? ⟨g8 + 1 + 1 + 1 + 1, 0, none⟩ = some (.int .i64 c) := F4.out.cell 0
                        have x1 : v3.cell? ⟨g8 + 1 + 1 + 1 + 1, 1, none⟩ = some (.int .i64 a) := F4.out.cell 1
                        have x2 : v3.cell? ⟨g8 + 1 + 1 + 1 + 1, 2, none⟩ = some (.int .i64 b) := F4.out.cell 2
                        have x3 : v3.cell? ⟨g8 + 1 + 1 + 1 + 1, 3, none⟩ = some (.int .i64 q) := F4.out.cell 3
                        have x4 : v3.cell? ⟨g8 + 1 + 1 + 1 + 1, 4, none⟩ = some (.int .i64 n) := F4.out.cell 4
                        have x5 : v3.cell? ⟨g8 + 1 + 1 + 1 + 1, 5, none⟩ = some (.int .i64 x) := F4.out.cell 5
                        have x6 : v3.cell? ⟨g8 + 1 + 1 + 1 + 1, 6, none⟩ = some (.slice none 0 0) := F4.out.cell 6
                        have x7 : v3.cell? ⟨g8 + 1 + 1 + 1 + 1, 7, none⟩ = some (.slice none 0 0) := F4.out.cell 7
                        go_wp2_with (fail)
                        refine (lawCheck_calls 3 2 0 0 0 ⟨c, a, b, q, n, x, [], []⟩ none none 0 0 v3 Reads.none_ Reads.none_ (by simp) (by simp) (hG.below HB.out)).mono ?_
                        rintro e v4 ⟨rfl, hbz⟩
                        clear k0 k1 k2 k3 k4 x0 x1 x2 x3 x4 x5 x6 x7
                        replace HC := Lib.hid (HC.out.below hbz HC.out.lt)
                        replace HE := Lib.hid (HE.out.below hbz HE.out.lt)
                        replace HB := Lib.hid (HB.out.trans (hbz.mono HB.out.size))
                        clear hbz
                        go_wp2_with (fail)
                        go_roundw
                        case rel => exact ⟨k + 1, by omega, by go_num, HC.out, HE.out, HB.out⟩
                        case measure => simp [intOf]; omega
              · obtain rfl : k = 16 := by omega
                go_wp2_with (fail)
                go_roundw
                case rel => exact ⟨i + 1, by omega, by go_num, hC, hE, B⟩
                case measure => simp [intOf]; omega
          · obtain rfl : i = 12 := by omega
            go_wp2_with (fail)
            go_roundw
            case rel => exact ⟨c + 1, by omega, by omega, by go_num, hC, hE, B⟩
            case measure => simp [intOf]; omega
    · obtain rfl : c = 10 := by omega
      obtain ⟨i0, hi0, hz0, hz1, hz2⟩ := info_parts infoKeys
      go_wp2_with (fail)
      go_loopw [13, 14] (fun v j wr => ∃ (n : Nat) (L : List Key), n ≤ 67 ∧ j = .int .i64 n ∧ L.length = n ∧ wr.ownsRow w.heap.size 47 2 v L.length (keysC L) ∧ Blk wr gc 23 #[.int .i64 3, .int .i64 2, .int .i64 0, .int .i64 0, .int .i64 0] ∧ Blk wr (gc + 1) 3 (intsC [-9223372036854775808, -1, 0, 1, 2, 3, 65535, 65536, 65537, 1099511627776, 1099511627777, 9223372036854775807]).toArray ∧ Below w.heap.size w wr) (fun _ j _ => 67 - (intOf j).toNat)
      case atStart => exact ⟨0, [], by omega, rfl, rfl, World.ownsRow_nil _ _ _ _, hC, hE, B⟩
      case round =>
        clear B hE hC
        obtain ⟨n, L, hn, rfl, hL, hown, hC, hE, B⟩ := hrel
        by_cases hlt2 : n < 67
        · have hnl : (n : Int) ≤ 66 := by omega
          have hn0 : (0 : Int) ≤ (n : Int) := by omega
          obtain ⟨A, cc, rfl⟩ := own_slice_n hown
          obtain ⟨go, hgo⟩ : ∃ g, wr.heap.size = g := ⟨_, rfl⟩
          have HL := Lib.hid hL
          clear hL
          obtain ⟨W1, hW1⟩ : ∃ W, wr.alloc (.cells (opCs 8 0 0 0 0 0 nilS (.slice A L.length cc)) 33) = W := ⟨_, rfl⟩
          have hO1 : Blk W1 go 33 (opCs 8 0 0 0 0 0 nilS (.slice A L.length cc)) := by rw [← hW1, ← hgo]; exact Blk.new _ _ _
          have hC1 := hW1 ▸ hC.alloc (.cells (opCs 8 0 0 0 0 0 nilS (.slice A L.length cc)) 33)
          have hE1 := hW1 ▸ hE.alloc (.cells (opCs 8 0 0 0 0 0 nilS (.slice A L.length cc)) 33)
          have hown1 := hW1 ▸ hown.alloc (.cells (opCs 8 0 0 0 0 0 nilS (.slice A L.length cc)) 33)
          have B1 : Below w.heap.size w W1 := hW1 ▸ B.alloc B.size _
          simp only [opCs] at hW1
          clear hC hE hown B
          go_wp2_with (fail)
          refine (copyKeys_calls L A cc W1.heap.size W1 (Reads.of_own hown1) (Nat.le_refl _) (by have := HL.out; omega)).mono ?_
          rintro e w1 ⟨vb, rfl, hbad, hb1⟩
          obtain ⟨VA, vc, rfl⟩ := own_slice_n hbad
          have HC1 := Lib.hid (hC1.below hb1 hC1.lt)
          have HE1 := Lib.hid (hE1.below hb1 hE1.lt)
          have HO1 := Lib.hid (hO1.below hb1 hO1.lt)
          have hown2' := own_below hown1 hb1
          have B2 := B1.trans (hb1.mono B1.size)
          have hne : ∀ k, (Value.slice A L.length cc).ownBlock = some k → k < W1.heap.size := fun k hk => (hown1.lt k hk).2
          have sW := B1.size
          clear hW1 hC1 hE1 hO1 hown1
          go_wp2_with (first | (at_builtin; refine wpList_append_own _ rfl (.tmp 111) (.tmp 114) 31 rfl W1.heap.size 47 i0 _ 2 16 Tryd.underlying31 hi0 hz0 hz1 hz2 rfl (by decide) _ L.length (keysC L) rfl (hbad.alloc _) ⟨w1.heap.size, 0, none⟩ 2 2 [.int .i64 0, .int .i64 2, .int .i64 3, .int .i64 0] rfl rfl ?_ ?_ ?_ ?_ ?_ ?_; exact new_cells w1 47 [.int .i64 0, .int .i64 2, .int .i64 3, .int .i64 0]; (simp [Value.oneCell']); (have := HL.out; unfold maxLen; omega); (have := HL.out; omega); (have := hb1.size; simp; omega); intro v1 w2 hown2 hg2 _; obtain ⟨BA, bc, rfl⟩ := own_slice_n hown2; have hC2 := (HC1.out.alloc (.cells #[.int .i64 0, .int .i64 2, .int .i64 3, .int .i64 0] 47)).grown hg2 (fun he => own_blk_ne hbad HC1.out (by decide) he.symm); have hE2 := (HE1.out.alloc (.cells #[.int .i64 0, .int .i64 2, .int .i64 3, .int .i64 0] 47)).grown hg2 (fun he => own_blk_ne hbad HE1.out (by decide) he.symm); have hO2 := (HO1.out.alloc (.cells #[.int .i64 0, .int .i64 2, .int .i64 3, .int .i64 0] 47)).grown hg2 (fun he => own_blk_ne hbad HO1.out (by decide) he.symm); have k0 : w2.cell? ⟨gc, 0, none⟩ = some (.int .i64 3) := hC2.cell 0; have k1 : w2.cell? ⟨gc, 1, none⟩ = some (.int .i64 2) := hC2.cell 1; have k2 : w2.cell? ⟨gc, 2, none⟩ = some (.int .i64 0) := hC2.cell 2; have k3 : w2.cell? ⟨gc, 3, none⟩ = some (.int .i64 0) := hC2.cell 3; have k4 : w2.cell? ⟨gc, 4, none⟩ = some (.int .i64 0) := hC2.cell 4; have x0 : w2.cell? ⟨go, 0, none⟩ = some (.int .i64 8) := hO2.cell 0; have x1 : w2.cell? ⟨go, 1, none⟩ = some (.int .i64 0) := hO2.cell 1; have x2 : w2.cell? ⟨go, 2, none⟩ = some (.int .i64 0) := hO2.cell 2; have x3 : w2.cell? ⟨go, 3, none⟩ = some (.int .i64 0) := hO2.cell 3; have x4 : w2.cell? ⟨go, 4, none⟩ = some (.int .i64 0) := hO2.cell 4; have x5 : w2.cell? ⟨go, 5, none⟩ = some (.int .i64 0) := hO2.cell 5; have x6 : w2.cell? ⟨go, 6, none⟩ = some (.slice none 0 0) := hO2.cell 6; have x7 : w2.cell? ⟨go, 7, none⟩ = some (.slice A L.length cc) := hO2.cell 7))
          have hg3 : World.grownBy (w1.alloc (.cells #[.int .i64 0, .int .i64 2, .int .i64 3, .int .i64 0] 47)) w2 (Value.slice VA L.length vc).ownBlock := hg2
          have hown3 : w2.ownsRow w.heap.size 47 2 (.slice A L.length cc) L.length (keysC L) := (hown2'.alloc (.cells #[.int .i64 0, .int .i64 2, .int .i64 3, .int .i64 0] 47)).kept hg3 (by
            cases hA : (Value.slice A L.length cc).ownBlock with
            | none => exact .inl rfl
            | some k => exact .inr fun he => by have h1 := hne k hA; have h2 := own_base hbad he.symm; omega)
          have B3 : Below w.heap.size w w2 := (B2.alloc B2.size _).grown hg3 (by have := B2.size; simp; omega) (fun b hb => by have := own_base hbad hb; omega)
          have hbd : w2.ownsRow W1.heap.size 47 2 (.slice BA (L ++ [(⟨0, 2⟩ : Key), ⟨3, 0⟩]).length bc) (L ++ [(⟨0, 2⟩ : Key), ⟨3, 0⟩]).length (keysC (L ++ [(⟨0, 2⟩ : Key), ⟨3, 0⟩])) := by
            have e1 : (L ++ [(⟨0, 2⟩ : Key), ⟨3, 0⟩]).length = L.length + 2 := by simp
            have e2 : keysC (L ++ [(⟨0, 2⟩ : Key), ⟨3, 0⟩]) = keysC L ++ [.int .i64 0, .int .i64 2, .int .i64 3, .int .i64 0] := by simp [keysC, Key.cs]
            rw [e1, e2]
            exact hown2
          have HC2 := Lib.hid hC2
          have HE2 := Lib.hid hE2
          clear hC2 hE2 hO2
          refine (lawCheck_calls 3 2 0 0 0 ⟨8, 0, 0, 0, 0, 0, [], L⟩ none A 0 cc w2 Reads.none_ (Reads.of_own hown3) (by simp) (by have := HL.out; dsimp only; omega) (hG.below B3)).mono ?_
          rintro e w3 ⟨rfl, hb3⟩
          have hC3 := HC2.out.below hb3 HC2.out.lt
          have hE3 := HE2.out.below hb3 HE2.out.lt
          have hown3' := own_below hown3 hb3
          have hbd3 := own_below hbd hb3
          have B3' := B3.trans (hb3.mono B3.size)
          clear k0 k1 k2 k3 k4 x0 x1 x2 x3 x4 x5 x6 x7
          have k0 : w3.cell? ⟨gc, 0, none⟩ = some (.int .i64 3) := hC3.cell 0
          have k1 : w3.cell? ⟨gc, 1, none⟩ = some (.int .i64 2) := hC3.cell 1
          have k2 : w3.cell? ⟨gc, 2, none⟩ = some (.int .i64 0) := hC3.cell 2
          have k3 : w3.cell? ⟨gc, 3, none⟩ = some (.int .i64 0) := hC3.cell 3
          have k4 : w3.cell? ⟨gc, 4, none⟩ = some (.int .i64 0) := hC3.cell 4
          have HE3 := Lib.hid hE3
          have HC3 := Lib.hid hC3
          clear hC3 hE3
          go_wp2_with (fail)
          have e1 : (L ++ [(⟨0, 2⟩ : Key), ⟨3, 0⟩]).length = L.length + 2 := by simp
          have hq := lawCheck_calls 3 2 0 0 0 ⟨8, 0, 0, 0, 0, 0, [], L ++ [⟨0, 2⟩, ⟨3, 0⟩]⟩ none BA 0 bc w3 Reads.none_ (Reads.of_own hbd3) (by simp) (by have := HL.out; dsimp only; rw [e1]; omega) (hG.below B3')
          rw [e1] at hq
          refine hq.mono ?_
          rintro e w4 ⟨rfl, hb4⟩
          have hC4 := HC3.out.below hb4 HC3.out.lt
          have hE4 := HE3.out.below hb4 HE3.out.lt
          have hown4 := own_below hown3' hb4
          have B4 := B3'.trans (hb4.mono B3'.size)
          have HC4 := Lib.hid hC4
          have HE4 := Lib.hid hE4
          clear hC4 hE4 k0 k1 k2 k3 k4
          go_wp2_with (first | (at_builtin; refine wpList_append_own _ rfl (.tmp 127) (.tmp 133) 31 rfl w.heap.size 47 i0 _ 2 16 Tryd.underlying31 hi0 hz0 hz1 hz2 rfl (by decide) _ L.length (keysC L) rfl (hown4.alloc _) ⟨w4.heap.size, 0, none⟩ 1 1 [.int .i64 ((n : Int) % 3), .int .i64 ((n : Int) % 2)] rfl rfl ?_ ?_ ?_ ?_ ?_ ?_; exact new_cells w4 47 [.int .i64 ((n : Int) % 3), .int .i64 ((n : Int) % 2)]; (simp [Value.oneCell']); (have := HL.out; unfold maxLen; omega); (have := HL.out; omega); (have := B4.size; simp; omega); intro v5 w5 hown5 hg5 _))
          go_roundw
          case rel =>
            refine ⟨n + 1, L ++ [⟨(n : Int) % 3, (n : Int) % 2⟩], by omega, by go_num, by simp [HL.out], ?_, (HC4.out.alloc _).grown hg5 (fun he => own_blk_ne hown4 HC4.out (by decide) he.symm), (HE4.out.alloc _).grown hg5 (fun he => own_blk_ne hown4 HE4.out (by decide) he.symm), (B4.alloc B4.size _).grown hg5 (by have := B4.size; simp; omega) (fun b hb => own_base hown4 hb)⟩
            have e2 : (L ++ [(⟨(n : Int) % 3, (n : Int) % 2⟩ : Key)]).length = L.length + 1 := by simp
            have e3 : keysC (L ++ [(⟨(n : Int) % 3, (n : Int) % 2⟩ : Key)]) = keysC L ++ [.int .i64 ((n : Int) % 3), .int .i64 ((n : Int) % 2)] := by simp [keysC, Key.cs]
            rw [e2, e3]
            exact hown5
          case measure => simp [intOf]; omega
        · obtain rfl : n = 67 := by omega
          go_wp2
          go_ret
          exact ⟨rfl, B⟩
end Go.Proofs.YtmdkcggmnejkoaaDoor
