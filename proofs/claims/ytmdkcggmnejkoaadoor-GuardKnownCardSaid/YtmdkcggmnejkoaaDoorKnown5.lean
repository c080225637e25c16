/- custodylaw16.knownWide (of the closed law GuardKnown) by a contract (printed by gen_known5.py). -/
import Derived.Test.YtmdkcggmnejkoaaDoorKnown2
import Derived.Test.YtmdkcggmnejkoaaDoorCheckLaw
import Derived.Test.YtmdkcggmnejkoaaDoorOwn
import Derived.Deep.DeepCutAuto
import Derived.Deep.CutBlock
import Derived.Deep.RegionHeld3
namespace Go.Proofs.YtmdkcggmnejkoaaDoor
set_option linter.unusedSimpArgs false
set_option linter.unusedVariables false
open Go.RowKit

def three (w : World) (t1 t2 t3 : TypeId) (o1 o2 o3 : Array Value) : World := ((w.alloc (.cells o1 t1)).alloc (.cells o2 t2)).alloc (.cells o3 t3)
theorem three_facts (w : World) (t1 t2 t3 : TypeId) (o1 o2 o3 : Array Value) : Blk (three w t1 t2 t3 o1 o2 o3) w.heap.size t1 o1 ∧ Blk (three w t1 t2 t3 o1 o2 o3) (w.heap.size + 1) t2 o2 ∧ Blk (three w t1 t2 t3 o1 o2 o3) (w.heap.size + 1 + 1) t3 o3 ∧ Below w.heap.size w (three w t1 t2 t3 o1 o2 o3) := by
  have h1 := Blk.new w t1 o1
  have h2 := Blk.new (w.alloc (.cells o1 t1)) t2 o2
  have h3 := Blk.new ((w.alloc (.cells o1 t1)).alloc (.cells o2 t2)) t3 o3
  have s1 : ∀ (v : World) (o : Obj), (v.alloc o).heap.size = v.heap.size + 1 := fun v o => by simp
  simp only [s1] at h2 h3
  exact ⟨(h1.alloc _).alloc _, h2.alloc _, h3, (((Below.refl _ _).alloc (Nat.le_refl _) _).alloc (by simp) _).alloc (by simp; omega) _⟩

theorem intsB_at {w : World} {g : Nat} {t : TypeId} {l : List Int} (h : Blk w g t (intsC l).toArray) {i : Nat} (hi : i < l.length) : w.cell? ⟨g, i, none⟩ = some (.int .i64 l[i]) := by
  rw [h.cell i, List.getElem?_toArray, ints_get]; simp [hi]

set_option maxRecDepth 100000 in
set_option maxHeartbeats 8000000 in
theorem knownWide_calls (w : World) (hG : HG w) : Calls Tryd.prog 37 #[] w fun e w' => e = .returned (.bool true) ∧ Below w.heap.size w w' := by
  obtain ⟨gl, hgl⟩ : ∃ g, w.heap.size = g := ⟨_, rfl⟩
  go_enter Tryd.func37, Tryd.ntmps37
  go_wp2_with (fail)
  go_loopw [2] (fun j wr => ∃ i : Nat, i ≤ 9 ∧ j = .int .i64 i ∧ Blk wr gl 3 (intsC [-9223372036854775808, -1, 0, 1, 65535, 65536, 65537, 1099511627776, 9223372036854775807]).toArray ∧ Below w.heap.size w wr) (fun j _ => 9 - (intOf j).toNat)
  case atStart => exact ⟨0, by omega, rfl, hgl ▸ Blk.new _ _ _, (Below.refl _ _).alloc (Nat.le_refl _) _⟩
  case round =>
    obtain ⟨i, hi, rfl, hE, B⟩ := hrel
    by_cases hlt : i < 9
    · have hil : (i : Int) < 9 := by omega
      go_wp2_with (fail)
      go_loopw [3] (fun j wr => ∃ k : Nat, k ≤ 9 ∧ j = .int .i64 k ∧ Blk wr gl 3 (intsC [-9223372036854775808, -1, 0, 1, 65535, 65536, 65537, 1099511627776, 9223372036854775807]).toArray ∧ Below w.heap.size w wr) (fun j _ => 9 - (intOf j).toNat)
      case atStart => exact ⟨0, by omega, rfl, hE, B⟩
      case round =>
        clear B hE
        obtain ⟨k, hk, rfl, hE, B⟩ := hrel
        by_cases hlt2 : k < 9
        · have hkl : (k : Int) < 9 := by omega
          obtain ⟨x, cx⟩ := ints_cell hE (i := i) hlt
          have cx1 := fun o => cell_alloc cx o
          obtain ⟨gc, hgc⟩ : ∃ g, wr.heap.size = g := ⟨_, rfl⟩
          have HE := Lib.hid hE
          have HB := Lib.hid B
          clear hE B
          go_wp2_with (fail)
          go_loopw [6] (fun j wr => ∃ c : Nat, 1 ≤ c ∧ c ≤ 9 ∧ j = .int .i64 c ∧ Blk wr gc 23 #[.int .i64 x, .int .i64 3, .int .i64 0, .int .i64 0, .int .i64 0] ∧ Blk wr (gc + 1) 23 #[.int .i64 3, .int .i64 x, .int .i64 0, .int .i64 0, .int .i64 0] ∧ Blk wr gl 3 (intsC [-9223372036854775808, -1, 0, 1, 65535, 65536, 65537, 1099511627776, 9223372036854775807]).toArray ∧ Below w.heap.size w wr) (fun j _ => 9 - (intOf j).toNat)
          case atStart =>
            refine ⟨1, by omega, by omega, rfl, hgc ▸ (Blk.new _ _ _).alloc _, ?_, (HE.out.alloc _).alloc _, (HB.out.alloc HB.out.size _).alloc (by have := HB.out.size; simp; omega) _⟩
            have h := Blk.new (wr.alloc (.cells #[.int .i64 x, .int .i64 3, .int .i64 0, .int .i64 0, .int .i64 0] 23)) 23 #[.int .i64 3, .int .i64 x, .int .i64 0, .int .i64 0, .int .i64 0]
            rw [show (wr.alloc (.cells #[.int .i64 x, .int .i64 3, .int .i64 0, .int .i64 0, .int .i64 0] 23)).heap.size = wr.heap.size + 1 by simp, hgc] at h
            exact h
          case round =>
            clear HE HB cx cx1 hgc
            obtain ⟨c, hc0, hc1, rfl, hC1, hC2, hE, B⟩ := hrel
            by_cases hlt3 : c < 9
            · have hcl : (c : Int) ≤ 8 := by omega
              obtain ⟨y, hy⟩ : ∃ y, ∀ W, Blk W gl 3 (intsC [-9223372036854775808, -1, 0, 1, 65535, 65536, 65537, 1099511627776, 9223372036854775807]).toArray → W.cell? ⟨gl, k, none⟩ = some (.int .i64 y) := ⟨_, fun W h => intsB_at h hlt2⟩
              have cy := hy _ hE
              have HY := Lib.hid hy
              clear hy
              have cy1 := fun o => cell_alloc cy o
              have cy2 := fun o p => cell_alloc (cy1 o) p
              have cy3 := fun o p q => cell_alloc (cy2 o p) q
              have HE := Lib.hid hE
              have HB := Lib.hid B
              have HC1 := Lib.hid hC1
              have HC2 := Lib.hid hC2
              clear hE B hC1 hC2
              go_upto_region 13 with fail
              go_cut [7] (fun s7 wd => (∃ go gL gP : Nat, s7 = .pointer (some ⟨go, 0, none⟩) ∧ Blk wd go 33 #[.int .i64 c, .int .i64 y, .int .i64 1, .int .i64 1, .int .i64 1, .int .i64 1, .slice (some ⟨gL, 0, none⟩) 1 1, .slice (some ⟨gP, 0, none⟩) 1 1] ∧ Blk wd gL 45 #[.int .i64 y, .int .i64 0, .int .i64 1, .int .i64 1, .int .i64 0] ∧ Blk wd gP 47 #[.int .i64 y, .int .i64 1]) ∧ Blk wd gc 23 #[.int .i64 x, .int .i64 3, .int .i64 0, .int .i64 0, .int .i64 0] ∧ Blk wd (gc + 1) 23 #[.int .i64 3, .int .i64 x, .int .i64 0, .int .i64 0, .int .i64 0] ∧ Blk wd gl 3 (intsC [-9223372036854775808, -1, 0, 1, 65535, 65536, 65537, 1099511627776, 9223372036854775807]).toArray ∧ Below w.heap.size w wd)
              case first =>
                go_region_held3 (fun W => W.cell? ⟨gl, k, none⟩ = some (.int .i64 y)) (go_keep) (fail)
                all_goals (go_wp2; go_meet; case rel => (first
                  | (obtain ⟨f0, f1, f2, f3⟩ := three_facts wr 45 47 33 #[.int .i64 y, .int .i64 0, .int .i64 1, .int .i64 1, .int .i64 0] #[.int .i64 y, .int .i64 1] #[.int .i64 c, .int .i64 y, .int .i64 1, .int .i64 1, .int .i64 1, .int .i64 1, .slice (some ⟨wr.heap.size, 0, none⟩) 1 1, .slice (some ⟨wr.heap.size + 1, 0, none⟩) 1 1]; exact ⟨⟨wr.heap.size + 1 + 1, wr.heap.size, wr.heap.size + 1, rfl, f2.drew, f0.drew, f1.drew⟩, (HC1.out.below f3 HC1.out.lt).drew, (HC2.out.below f3 HC2.out.lt).drew, (HE.out.below f3 HE.out.lt).drew, (HB.out.trans (f3.mono HB.out.size)).drew⟩)
                  | (obtain ⟨f0, f1, f2, f3⟩ := three_facts wr 45 33 47 #[.int .i64 y, .int .i64 0, .int .i64 1, .int .i64 1, .int .i64 0] #[.int .i64 c, .int .i64 y, .int .i64 1, .int .i64 1, .int .i64 1, .int .i64 1, .slice (some ⟨wr.heap.size, 0, none⟩) 1 1, .slice (some ⟨wr.heap.size + 1 + 1, 0, none⟩) 1 1] #[.int .i64 y, .int .i64 1]; exact ⟨⟨wr.heap.size + 1, wr.heap.size, wr.heap.size + 1 + 1, rfl, f1.drew, f0.drew, f2.drew⟩, (HC1.out.below f3 HC1.out.lt).drew, (HC2.out.below f3 HC2.out.lt).drew, (HE.out.below f3 HE.out.lt).drew, (HB.out.trans (f3.mono HB.out.size)).drew⟩)
                  | (obtain ⟨f0, f1, f2, f3⟩ := three_facts wr 47 45 33 #[.int .i64 y, .int .i64 1] #[.int .i64 y, .int .i64 0, .int .i64 1, .int .i64 1, .int .i64 0] #[.int .i64 c, .int .i64 y, .int .i64 1, .int .i64 1, .int .i64 1, .int .i64 1, .slice (some ⟨wr.heap.size + 1, 0, none⟩) 1 1, .slice (some ⟨wr.heap.size, 0, none⟩) 1 1]; exact ⟨⟨wr.heap.size + 1 + 1, wr.heap.size + 1, wr.heap.size, rfl, f2.drew, f1.drew, f0.drew⟩, (HC1.out.below f3 HC1.out.lt).drew, (HC2.out.below f3 HC2.out.lt).drew, (HE.out.below f3 HE.out.lt).drew, (HB.out.trans (f3.mono HB.out.size)).drew⟩)
                  | (obtain ⟨f0, f1, f2, f3⟩ := three_facts wr 47 33 45 #[.int .i64 y, .int .i64 1] #[.int .i64 c, .int .i64 y, .int .i64 1, .int .i64 1, .int .i64 1, .int .i64 1, .slice (some ⟨wr.heap.size + 1 + 1, 0, none⟩) 1 1, .slice (some ⟨wr.heap.size, 0, none⟩) 1 1] #[.int .i64 y, .int .i64 0, .int .i64 1, .int .i64 1, .int .i64 0]; exact ⟨⟨wr.heap.size + 1, wr.heap.size + 1 + 1, wr.heap.size, rfl, f1.drew, f2.drew, f0.drew⟩, (HC1.out.below f3 HC1.out.lt).drew, (HC2.out.below f3 HC2.out.lt).drew, (HE.out.below f3 HE.out.lt).drew, (HB.out.trans (f3.mono HB.out.size)).drew⟩)
                  | (obtain ⟨f0, f1, f2, f3⟩ := three_facts wr 33 45 47 #[.int .i64 c, .int .i64 y, .int .i64 1, .int .i64 1, .int .i64 1, .int .i64 1, .slice (some ⟨wr.heap.size + 1, 0, none⟩) 1 1, .slice (some ⟨wr.heap.size + 1 + 1, 0, none⟩) 1 1] #[.int .i64 y, .int .i64 0, .int .i64 1, .int .i64 1, .int .i64 0] #[.int .i64 y, .int .i64 1]; exact ⟨⟨wr.heap.size, wr.heap.size + 1, wr.heap.size + 1 + 1, rfl, f0.drew, f1.drew, f2.drew⟩, (HC1.out.below f3 HC1.out.lt).drew, (HC2.out.below f3 HC2.out.lt).drew, (HE.out.below f3 HE.out.lt).drew, (HB.out.trans (f3.mono HB.out.size)).drew⟩)
                  | (obtain ⟨f0, f1, f2, f3⟩ := three_facts wr 33 47 45 #[.int .i64 c, .int .i64 y, .int .i64 1, .int .i64 1, .int .i64 1, .int .i64 1, .slice (some ⟨wr.heap.size + 1 + 1, 0, none⟩) 1 1, .slice (some ⟨wr.heap.size + 1, 0, none⟩) 1 1] #[.int .i64 y, .int .i64 1] #[.int .i64 y, .int .i64 0, .int .i64 1, .int .i64 1, .int .i64 0]; exact ⟨⟨wr.heap.size, wr.heap.size + 1 + 1, wr.heap.size + 1, rfl, f0.drew, f2.drew, f1.drew⟩, (HC1.out.below f3 HC1.out.lt).drew, (HC2.out.below f3 HC2.out.lt).drew, (HE.out.below f3 HE.out.lt).drew, (HB.out.trans (f3.mono HB.out.size)).drew⟩)))
              case rest =>
                clear cy1 cy2 cy3 cy HE HB HC1 HC2
                obtain ⟨⟨go, gL, gP, rfl, hO, hOL, hOP⟩, hC1, hC2, hE, B⟩ := hcut
                rename World => W1
                have cy := HY.out _ hE
                have cy1 := fun o => cell_alloc cy o
                have cy2 := fun o p => cell_alloc (cy1 o) p
                have cy3 := fun o p q => cell_alloc (cy2 o p) q
                have HE := Lib.hid hE
                have HB := Lib.hid B
                have HC1 := Lib.hid hC1
                have HC2 := Lib.hid hC2
                have HO := Lib.hid hO
                have HOL := Lib.hid hOL
                have HOP := Lib.hid hOP
                clear hE B hC1 hC2 hO hOL hOP
                go_upto_region 14 with fail
                go_cut [8] (fun s8 wd => (∃ gp pL pP : Nat, s8 = .pointer (some ⟨gp, 0, none⟩) ∧ Blk wd gp 33 #[.int .i64 c, .int .i64 1, .int .i64 y, .int .i64 1, .int .i64 1, .int .i64 1, .slice (some ⟨pL, 0, none⟩) 1 1, .slice (some ⟨pP, 0, none⟩) 1 1] ∧ Blk wd pL 45 #[.int .i64 1, .int .i64 0, .int .i64 y, .int .i64 1, .int .i64 0] ∧ Blk wd pP 47 #[.int .i64 1, .int .i64 y]) ∧ (Blk wd go 33 #[.int .i64 c, .int .i64 y, .int .i64 1, .int .i64 1, .int .i64 1, .int .i64 1, .slice (some ⟨gL, 0, none⟩) 1 1, .slice (some ⟨gP, 0, none⟩) 1 1] ∧ Blk wd gL 45 #[.int .i64 y, .int .i64 0, .int .i64 1, .int .i64 1, .int .i64 0] ∧ Blk wd gP 47 #[.int .i64 y, .int .i64 1]) ∧ Blk wd gc 23 #[.int .i64 x, .int .i64 3, .int .i64 0, .int .i64 0, .int .i64 0] ∧ Blk wd (gc + 1) 23 #[.int .i64 3, .int .i64 x, .int .i64 0, .int .i64 0, .int .i64 0] ∧ Blk wd gl 3 (intsC [-9223372036854775808, -1, 0, 1, 65535, 65536, 65537, 1099511627776, 9223372036854775807]).toArray ∧ Below w.heap.size w wd)
                case first =>
                  go_region_held3 (fun W => W.cell? ⟨gl, k, none⟩ = some (.int .i64 y)) (go_keep) (fail)
                  all_goals (go_wp2; go_meet; case rel => (first
                    | (obtain ⟨f0, f1, f2, f3⟩ := three_facts W1 45 47 33 #[.int .i64 1, .int .i64 0, .int .i64 y, .int .i64 1, .int .i64 0] #[.int .i64 1, .int .i64 y] #[.int .i64 c, .int .i64 1, .int .i64 y, .int .i64 1, .int .i64 1, .int .i64 1, .slice (some ⟨W1.heap.size, 0, none⟩) 1 1, .slice (some ⟨W1.heap.size + 1, 0, none⟩) 1 1]; exact ⟨⟨W1.heap.size + 1 + 1, W1.heap.size, W1.heap.size + 1, rfl, f2.drew, f0.drew, f1.drew⟩, ⟨(HO.out.below f3 HO.out.lt).drew, (HOL.out.below f3 HOL.out.lt).drew, (HOP.out.below f3 HOP.out.lt).drew⟩, (HC1.out.below f3 HC1.out.lt).drew, (HC2.out.below f3 HC2.out.lt).drew, (HE.out.below f3 HE.out.lt).drew, (HB.out.trans (f3.mono HB.out.size)).drew⟩)
                    | (obtain ⟨f0, f1, f2, f3⟩ := three_facts W1 45 33 47 #[.int .i64 1, .int .i64 0, .int .i64 y, .int .i64 1, .int .i64 0] #[.int .i64 c, .int .i64 1, .int .i64 y, .int .i64 1, .int .i64 1, .int .i64 1, .slice (some ⟨W1.heap.size, 0, none⟩) 1 1, .slice (some ⟨W1.heap.size + 1 + 1, 0, none⟩) 1 1] #[.int .i64 1, .int .i64 y]; exact ⟨⟨W1.heap.size + 1, W1.heap.size, W1.heap.size + 1 + 1, rfl, f1.drew, f0.drew, f2.drew⟩, ⟨(HO.out.below f3 HO.out.lt).drew, (HOL.out.below f3 HOL.out.lt).drew, (HOP.out.below f3 HOP.out.lt).drew⟩, (HC1.out.below f3 HC1.out.lt).drew, (HC2.out.below f3 HC2.out.lt).drew, (HE.out.below f3 HE.out.lt).drew, (HB.out.trans (f3.mono HB.out.size)).drew⟩)
                    | (obtain ⟨f0, f1, f2, f3⟩ := three_facts W1 47 45 33 #[.int .i64 1, .int .i64 y] #[.int .i64 1, .int .i64 0, .int .i64 y, .int .i64 1, .int .i64 0] #[.int .i64 c, .int .i64 1, .int .i64 y, .int .i64 1, .int .i64 1, .int .i64 1, .slice (some ⟨W1.heap.size + 1, 0, none⟩) 1 1, .slice (some ⟨W1.heap.size, 0, none⟩) 1 1]; exact ⟨⟨W1.heap.size + 1 + 1, W1.heap.size + 1, W1.heap.size, rfl, f2.drew, f1.drew, f0.drew⟩, ⟨(HO.out.below f3 HO.out.lt).drew, (HOL.out.below f3 HOL.out.lt).drew, (HOP.out.below f3 HOP.out.lt).drew⟩, (HC1.out.below f3 HC1.out.lt).drew, (HC2.out.below f3 HC2.out.lt).drew, (HE.out.below f3 HE.out.lt).drew, (HB.out.trans (f3.mono HB.out.size)).drew⟩)
                    | (obtain ⟨f0, f1, f2, f3⟩ := three_facts W1 47 33 45 #[.int .i64 1, .int .i64 y] #[.int .i64 c, .int .i64 1, .int .i64 y, .int .i64 1, .int .i64 1, .int .i64 1, .slice (some ⟨W1.heap.size + 1 + 1, 0, none⟩) 1 1, .slice (some ⟨W1.heap.size, 0, none⟩) 1 1] #[.int .i64 1, .int .i64 0, .int .i64 y, .int .i64 1, .int .i64 0]; exact ⟨⟨W1.heap.size + 1, W1.heap.size + 1 + 1, W1.heap.size, rfl, f1.drew, f2.drew, f0.drew⟩, ⟨(HO.out.below f3 HO.out.lt).drew, (HOL.out.below f3 HOL.out.lt).drew, (HOP.out.below f3 HOP.out.lt).drew⟩, (HC1.out.below f3 HC1.out.lt).drew, (HC2.out.below f3 HC2.out.lt).drew, (HE.out.below f3 HE.out.lt).drew, (HB.out.trans (f3.mono HB.out.size)).drew⟩)
                    | (obtain ⟨f0, f1, f2, f3⟩ := three_facts W1 33 45 47 #[.int .i64 c, .int .i64 1, .int .i64 y, .int .i64 1, .int .i64 1, .int .i64 1, .slice (some ⟨W1.heap.size + 1, 0, none⟩) 1 1, .slice (some ⟨W1.heap.size + 1 + 1, 0, none⟩) 1 1] #[.int .i64 1, .int .i64 0, .int .i64 y, .int .i64 1, .int .i64 0] #[.int .i64 1, .int .i64 y]; exact ⟨⟨W1.heap.size, W1.heap.size + 1, W1.heap.size + 1 + 1, rfl, f0.drew, f1.drew, f2.drew⟩, ⟨(HO.out.below f3 HO.out.lt).drew, (HOL.out.below f3 HOL.out.lt).drew, (HOP.out.below f3 HOP.out.lt).drew⟩, (HC1.out.below f3 HC1.out.lt).drew, (HC2.out.below f3 HC2.out.lt).drew, (HE.out.below f3 HE.out.lt).drew, (HB.out.trans (f3.mono HB.out.size)).drew⟩)
                    | (obtain ⟨f0, f1, f2, f3⟩ := three_facts W1 33 47 45 #[.int .i64 c, .int .i64 1, .int .i64 y, .int .i64 1, .int .i64 1, .int .i64 1, .slice (some ⟨W1.heap.size + 1 + 1, 0, none⟩) 1 1, .slice (some ⟨W1.heap.size + 1, 0, none⟩) 1 1] #[.int .i64 1, .int .i64 y] #[.int .i64 1, .int .i64 0, .int .i64 y, .int .i64 1, .int .i64 0]; exact ⟨⟨W1.heap.size, W1.heap.size + 1 + 1, W1.heap.size + 1, rfl, f0.drew, f2.drew, f1.drew⟩, ⟨(HO.out.below f3 HO.out.lt).drew, (HOL.out.below f3 HOL.out.lt).drew, (HOP.out.below f3 HOP.out.lt).drew⟩, (HC1.out.below f3 HC1.out.lt).drew, (HC2.out.below f3 HC2.out.lt).drew, (HE.out.below f3 HE.out.lt).drew, (HB.out.trans (f3.mono HB.out.size)).drew⟩)))
                case rest =>
                  clear cy1 cy2 cy3 cy HE HB HC1 HC2 HO HOL HOP
                  obtain ⟨⟨gp, pL, pP, rfl, hP, hPL, hPP⟩, ⟨hO, hOL, hOP⟩, hC1, hC2, hE, B⟩ := hcut
                  have cy := HY.out _ hE
                  have cy1 := fun o => cell_alloc cy o
                  have x0 : wc.cell? ⟨go, 0, none⟩ = some (.int .i64 c) := hO.cell 0
                  have x1 : wc.cell? ⟨go, 1, none⟩ = some (.int .i64 y) := hO.cell 1
                  have x2 : wc.cell? ⟨go, 2, none⟩ = some (.int .i64 1) := hO.cell 2
                  have x3 : wc.cell? ⟨go, 3, none⟩ = some (.int .i64 1) := hO.cell 3
                  have x4 : wc.cell? ⟨go, 4, none⟩ = some (.int .i64 1) := hO.cell 4
                  have x5 : wc.cell? ⟨go, 5, none⟩ = some (.int .i64 1) := hO.cell 5
                  have x6 : wc.cell? ⟨go, 6, none⟩ = some (.slice (some ⟨gL, 0, none⟩) 1 1) := hO.cell 6
                  have x7 : wc.cell? ⟨go, 7, none⟩ = some (.slice (some ⟨gP, 0, none⟩) 1 1) := hO.cell 7
                  obtain ⟨gq, hgq⟩ : ∃ g, wc.heap.size = g := ⟨_, rfl⟩
                  have HE := Lib.hid hE
                  have HB := Lib.hid B
                  have HC1 := Lib.hid hC1
                  have HC2 := Lib.hid hC2
                  have HO := Lib.hid (And.intro hO (And.intro hOL hOP))
                  have HP := Lib.hid (And.intro hP (And.intro hPL hPP))
                  clear hE B hC1 hC2 hO hOL hOP hP hPL hPP
                  go_upto_region 17 with fail
                  obtain ⟨W3, hW3⟩ : ∃ W, (wc.alloc (.cells #[.int .i64 c, .int .i64 y, .int .i64 1, .int .i64 1, .int .i64 1, .int .i64 1, .slice (some ⟨(gq + 1), 0, none⟩) 1 1, .slice (some ⟨gP, 0, none⟩) 1 1] 33)).alloc (.cells #[.int .i64 0, .int .i64 y, .int .i64 1, .int .i64 1, .int .i64 0] 45) = W := ⟨_, rfl⟩
                  have hf : Below wc.heap.size wc W3 := hW3 ▸ ((Below.refl _ _).alloc (Nat.le_refl _) _).alloc (by simp) _
                  have hQ : Blk W3 gq 33 #[.int .i64 c, .int .i64 y, .int .i64 1, .int .i64 1, .int .i64 1, .int .i64 1, .slice (some ⟨(gq + 1), 0, none⟩) 1 1, .slice (some ⟨gP, 0, none⟩) 1 1] := by rw [← hW3, ← hgq]; exact (Blk.new _ _ _).alloc _
                  have hQL : Blk W3 (gq + 1) 45 #[.int .i64 0, .int .i64 y, .int .i64 1, .int .i64 1, .int .i64 0] := by rw [← hW3, ← hgq]; have h := Blk.new (wc.alloc (.cells #[.int .i64 c, .int .i64 y, .int .i64 1, .int .i64 1, .int .i64 1, .int .i64 1, .slice (some ⟨(gq + 1), 0, none⟩) 1 1, .slice (some ⟨gP, 0, none⟩) 1 1] 33)) 45 #[.int .i64 0, .int .i64 y, .int .i64 1, .int .i64 1, .int .i64 0]; rw [show (wc.alloc (.cells #[.int .i64 c, .int .i64 y, .int .i64 1, .int .i64 1, .int .i64 1, .int .i64 1, .slice (some ⟨(gq + 1), 0, none⟩) 1 1, .slice (some ⟨gP, 0, none⟩) 1 1] 33)).heap.size = wc.heap.size + 1 by simp] at h; rw [hgq] at h ⊢; exact h
                  rw [hW3]
                  clear hW3 x0 x1 x2 x3 x4 x5 x6 x7 cy cy1 hgq
                  obtain ⟨hO, hOL, hOP⟩ := HO.out
                  obtain ⟨hP, hPL, hPP⟩ := HP.out
                  replace hO := hO.below hf hO.lt
                  replace hOL := hOL.below hf hOL.lt
                  replace hOP := hOP.below hf hOP.lt
                  replace hP := hP.below hf hP.lt
                  replace hPL := hPL.below hf hPL.lt
                  replace hPP := hPP.below hf hPP.lt
                  have hC1 := HC1.out.below hf HC1.out.lt
                  have hC2 := HC2.out.below hf HC2.out.lt
                  have hE := HE.out.below hf HE.out.lt
                  have B := HB.out.trans (hf.mono HB.out.size)
                  have hG3 : HG W3 := hG.below B
                  have r1 : Reads W3 W3.heap.size 5 (some ⟨gL, 0, none⟩) 1 (legsC [⟨y, 0, 1, 1, 0⟩]) := reads_blk hOL rfl
                  have r2 : Reads W3 W3.heap.size 2 (some ⟨gP, 0, none⟩) 1 (keysC [⟨y, 1⟩]) := reads_blk hOP rfl
                  have r3 : Reads W3 W3.heap.size 5 (some ⟨pL, 0, none⟩) 1 (legsC [⟨1, 0, y, 1, 0⟩]) := reads_blk hPL rfl
                  have r4 : Reads W3 W3.heap.size 2 (some ⟨pP, 0, none⟩) 1 (keysC [⟨1, y⟩]) := reads_blk hPP rfl
                  have r5 : Reads W3 W3.heap.size 5 (some ⟨gq + 1, 0, none⟩) 1 (legsC [⟨0, y, 1, 1, 0⟩]) := reads_blk hQL rfl
                  have HH := Lib.hid (And.intro hC1 (And.intro hC2 (And.intro hO (And.intro hP (And.intro hQ (And.intro hE B))))))
                  have RR := Lib.hid (And.intro r1 (And.intro r2 (And.intro r3 (And.intro r4 r5))))
                  clear HE HB HC1 HC2 HO HP hf HY hE B hOL hOP hPL hPP hQL
                  have k0 : W3.cell? ⟨gc, 0, none⟩ = some (.int .i64 x) := hC1.cell 0
                  have k1 : W3.cell? ⟨gc, 1, none⟩ = some (.int .i64 3) := hC1.cell 1
                  have k2 : W3.cell? ⟨gc, 2, none⟩ = some (.int .i64 0) := hC1.cell 2
                  have k3 : W3.cell? ⟨gc, 3, none⟩ = some (.int .i64 0) := hC1.cell 3
                  have k4 : W3.cell? ⟨gc, 4, none⟩ = some (.int .i64 0) := hC1.cell 4
                  have o0 : W3.cell? ⟨go, 0, none⟩ = some (.int .i64 c) := hO.cell 0
                  have o1 : W3.cell? ⟨go, 1, none⟩ = some (.int .i64 y) := hO.cell 1
                  have o2 : W3.cell? ⟨go, 2, none⟩ = some (.int .i64 1) := hO.cell 2
                  have o3 : W3.cell? ⟨go, 3, none⟩ = some (.int .i64 1) := hO.cell 3
                  have o4 : W3.cell? ⟨go, 4, none⟩ = some (.int .i64 1) := hO.cell 4
                  have o5 : W3.cell? ⟨go, 5, none⟩ = some (.int .i64 1) := hO.cell 5
                  have o6 : W3.cell? ⟨go, 6, none⟩ = some (.slice (some ⟨gL, 0, none⟩) 1 1) := hO.cell 6
                  have o7 : W3.cell? ⟨go, 7, none⟩ = some (.slice (some ⟨gP, 0, none⟩) 1 1) := hO.cell 7
                  clear hC1 hC2 hO hP hQ r1 r2 r3 r4 r5
                  go_wp2_with (fail)
                  refine (lawCheck_calls x 3 0 0 0 ⟨c, y, 1, 1, 1, 1, [⟨y, 0, 1, 1, 0⟩], [⟨y, 1⟩]⟩ (some ⟨gL, 0, none⟩) (some ⟨gP, 0, none⟩) 1 1 W3 RR.out.1 RR.out.2.1 (by simp) (by simp) (hG.below HH.out.2.2.2.2.2.2)).mono ?_
                  rintro e v0 ⟨rfl, hz⟩
                  clear k0 k1 k2 k3 k4 o0 o1 o2 o3 o4 o5 o6 o7 hG3
                  obtain ⟨hC1, hC2, hO, hP, hQ, hE, B⟩ := HH.out
                  replace hC1 := hC1.below hz hC1.lt
                  replace hC2 := hC2.below hz hC2.lt
                  replace hO := hO.below hz hO.lt
                  replace hP := hP.below hz hP.lt
                  replace hQ := hQ.below hz hQ.lt
                  replace hE := hE.below hz hE.lt
                  replace B := B.trans (hz.mono B.size)
                  replace HH := Lib.hid (And.intro hC1 (And.intro hC2 (And.intro hO (And.intro hP (And.intro hQ (And.intro hE B))))))
                  replace RR := Lib.hid (And.intro ((RR.out.1.below hz).more hz.size) (And.intro ((RR.out.2.1.below hz).more hz.size) (And.intro ((RR.out.2.2.1.below hz).more hz.size) (And.intro ((RR.out.2.2.2.1.below hz).more hz.size) ((RR.out.2.2.2.2.below hz).more hz.size)))))
                  clear hz hE B
                  have k0 : v0.cell? ⟨gc + 1, 0, none⟩ = some (.int .i64 3) := hC2.cell 0
                  have k1 : v0.cell? ⟨gc + 1, 1, none⟩ = some (.int .i64 x) := hC2.cell 1
                  have k2 : v0.cell? ⟨gc + 1, 2, none⟩ = some (.int .i64 0) := hC2.cell 2
                  have k3 : v0.cell? ⟨gc + 1, 3, none⟩ = some (.int .i64 0) := hC2.cell 3
                  have k4 : v0.cell? ⟨gc + 1, 4, none⟩ = some (.int .i64 0) := hC2.cell 4
                  have o0 : v0.cell? ⟨gp, 0, none⟩ = some (.int .i64 c) := hP.cell 0
                  have o1 : v0.cell? ⟨gp, 1, none⟩ = some (.int .i64 1) := hP.cell 1
                  have o2 : v0.cell? ⟨gp, 2, none⟩ = some (.int .i64 y) := hP.cell 2
                  have o3 : v0.cell? ⟨gp, 3, none⟩ = some (.int .i64 1) := hP.cell 3
                  have o4 : v0.cell? ⟨gp, 4, none⟩ = some (.int .i64 1) := hP.cell 4
                  have o5 : v0.cell? ⟨gp, 5, none⟩ = some (.int .i64 1) := hP.cell 5
                  have o6 : v0.cell? ⟨gp, 6, none⟩ = some (.slice (some ⟨pL, 0, none⟩) 1 1) := hP.cell 6
                  have o7 : v0.cell? ⟨gp, 7, none⟩ = some (.slice (some ⟨pP, 0, none⟩) 1 1) := hP.cell 7
                  clear hC1 hC2 hO hP hQ
                  go_wp2_with (fail)
                  refine (lawCheck_calls 3 x 0 0 0 ⟨c, 1, y, 1, 1, 1, [⟨1, 0, y, 1, 0⟩], [⟨1, y⟩]⟩ (some ⟨pL, 0, none⟩) (some ⟨pP, 0, none⟩) 1 1 v0 RR.out.2.2.1 RR.out.2.2.2.1 (by simp) (by simp) (hG.below HH.out.2.2.2.2.2.2)).mono ?_
                  rintro e v1 ⟨rfl, hz⟩
                  clear k0 k1 k2 k3 k4 o0 o1 o2 o3 o4 o5 o6 o7
                  obtain ⟨hC1, hC2, hO, hP, hQ, hE, B⟩ := HH.out
                  replace hC1 := hC1.below hz hC1.lt
                  replace hC2 := hC2.below hz hC2.lt
                  replace hO := hO.below hz hO.lt
                  replace hP := hP.below hz hP.lt
                  replace hQ := hQ.below hz hQ.lt
                  replace hE := hE.below hz hE.lt
                  replace B := B.trans (hz.mono B.size)
                  replace HH := Lib.hid (And.intro hC1 (And.intro hC2 (And.intro hO (And.intro hP (And.intro hQ (And.intro hE B))))))
                  replace RR := Lib.hid (And.intro ((RR.out.1.below hz).more hz.size) (And.intro ((RR.out.2.1.below hz).more hz.size) (And.intro ((RR.out.2.2.1.below hz).more hz.size) (And.intro ((RR.out.2.2.2.1.below hz).more hz.size) ((RR.out.2.2.2.2.below hz).more hz.size)))))
                  clear hz hE B
                  have k0 : v1.cell? ⟨gc, 0, none⟩ = some (.int .i64 x) := hC1.cell 0
                  have k1 : v1.cell? ⟨gc, 1, none⟩ = some (.int .i64 3) := hC1.cell 1
                  have k2 : v1.cell? ⟨gc, 2, none⟩ = some (.int .i64 0) := hC1.cell 2
                  have k3 : v1.cell? ⟨gc, 3, none⟩ = some (.int .i64 0) := hC1.cell 3
                  have k4 : v1.cell? ⟨gc, 4, none⟩ = some (.int .i64 0) := hC1.cell 4
                  have o0 : v1.cell? ⟨gq, 0, none⟩ = some (.int .i64 c) := hQ.cell 0
                  have o1 : v1.cell? ⟨gq, 1, none⟩ = some (.int .i64 y) := hQ.cell 1
                  have o2 : v1.cell? ⟨gq, 2, none⟩ = some (.int .i64 1) := hQ.cell 2
                  have o3 : v1.cell? ⟨gq, 3, none⟩ = some (.int .i64 1) := hQ.cell 3
                  have o4 : v1.cell? ⟨gq, 4, none⟩ = some (.int .i64 1) := hQ.cell 4
                  have o5 : v1.cell? ⟨gq, 5, none⟩ = some (.int .i64 1) := hQ.cell 5
                  have o6 : v1.cell? ⟨gq, 6, none⟩ = some (.slice (some ⟨gq + 1, 0, none⟩) 1 1) := hQ.cell 6
                  have o7 : v1.cell? ⟨gq, 7, none⟩ = some (.slice (some ⟨gP, 0, none⟩) 1 1) := hQ.cell 7
                  clear hC1 hC2 hO hP hQ
                  go_wp2_with (fail)
                  refine (lawCheck_calls x 3 0 0 0 ⟨c, y, 1, 1, 1, 1, [⟨0, y, 1, 1, 0⟩], [⟨y, 1⟩]⟩ (some ⟨gq + 1, 0, none⟩) (some ⟨gP, 0, none⟩) 1 1 v1 RR.out.2.2.2.2 RR.out.2.1 (by simp) (by simp) (hG.below HH.out.2.2.2.2.2.2)).mono ?_
                  rintro e v2 ⟨rfl, hz⟩
                  clear k0 k1 k2 k3 k4 o0 o1 o2 o3 o4 o5 o6 o7
                  obtain ⟨hC1, hC2, hO, hP, hQ, hE, B⟩ := HH.out
                  replace hC1 := hC1.below hz hC1.lt
                  replace hC2 := hC2.below hz hC2.lt
                  replace hO := hO.below hz hO.lt
                  replace hP := hP.below hz hP.lt
                  replace hQ := hQ.below hz hQ.lt
                  replace hE := hE.below hz hE.lt
                  replace B := B.trans (hz.mono B.size)
                  replace HH := Lib.hid (And.intro hC1 (And.intro hC2 (And.intro hO (And.intro hP (And.intro hQ (And.intro hE B))))))
                  replace RR := Lib.hid (And.intro ((RR.out.1.below hz).more hz.size) (And.intro ((RR.out.2.1.below hz).more hz.size) (And.intro ((RR.out.2.2.1.below hz).more hz.size) (And.intro ((RR.out.2.2.2.1.below hz).more hz.size) ((RR.out.2.2.2.2.below hz).more hz.size)))))
                  clear hz hE B
                  clear hC1 hC2 hO hP hQ
                  go_wp2_with (fail)
                  go_roundw
                  case rel => exact ⟨c + 1, by omega, by omega, by go_num, HH.out.1, HH.out.2.1, HH.out.2.2.2.2.2.1, HH.out.2.2.2.2.2.2⟩
                  case measure => simp [intOf]; omega
            · obtain rfl : c = 9 := by omega
              go_wp2_with (fail)
              go_roundw
              case rel => exact ⟨k + 1, by omega, by go_num, hE, B⟩
              case measure => simp [intOf]; omega
        · obtain rfl : k = 9 := by omega
          go_wp2_with (fail)
          go_roundw
          case rel => exact ⟨i + 1, by omega, by go_num, hE, B⟩
          case measure => simp [intOf]; omega
    · obtain rfl : i = 9 := by omega
      go_wp2
      go_ret
      exact ⟨rfl, B⟩
end Go.Proofs.YtmdkcggmnejkoaaDoor
