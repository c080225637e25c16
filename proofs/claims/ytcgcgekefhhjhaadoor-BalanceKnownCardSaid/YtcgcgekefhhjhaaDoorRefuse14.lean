/- balance.refuse, Check, Total, Marked, Cover, begin by contracts. -/
import Derived.Test.YtcgcgekefhhjhaaDoorFind14
import Derived.Test.YtcgcgekefhhjhaaDoorAs14
import Derived.Deep.RegionHeld3
import Derived.Deep.DeepCutAuto
import Derived.Deep.CutBlock
namespace Go.Proofs.YtcgcgekefhhjhaaDoor
set_option linter.unusedSimpArgs false
set_option linter.unusedVariables false
open Go.RowKit

/-- An error that a call of the package has met: its number, the place of what is wrong with the position. -/
def MidE (W : World) (B : Nat) (b : Int × Option Int) (v : Value) : Prop :=
  (b.1 = 0 ∧ v = .nilIface) ∨ (b.1 ≠ 0 ∧ b.2 = none ∧ v = .iface 65 (.int .i64 b.1)) ∨
  (b.1 ≠ 0 ∧ ∃ pl, b.2 = some pl ∧ ∃ g, B ≤ g ∧ v = .iface 82 (.pointer (some ⟨g, 0, none⟩)) ∧ Blk W g 84 #[.int .i64 pl, .int .i64 b.1])
def outV (b : Int × Option Int) : Value := if b.1 = 0 then .nilIface else match b.2 with | none => refusedV b.1 | some pl => faultV b.1 0 pl
def zeroP : Value := .agg #[.int .i64 0, .slice none 0 0]

theorem blk_setCells3 {W : World} {h : Nat} {t : TypeId} {o0 o1 o2 : Value} (hb : Blk W h t #[o0, o1, o2]) (a b c : Value) : Blk (W.setCells h 0 [a, b, c]) h t #[a, b, c] := by
  rw [setCells_cons, setCells_cons, setCells_cons, setCells_nil]
  exact ((hb.set_ 0 a).set_ 1 b).set_ 2 c

theorem setCell_same {w : World} {g i : Nat} {t : TypeId} {cs : Array Value} {v : Value} (h : Blk w g t cs) (hi : cs[i]? = some v) : w.setCell ⟨g, i, none⟩ v = w := by
  have hcs : cs.setIfInBounds i v = cs := by
    apply Array.ext_getElem?
    intro j
    rw [Array.getElem?_setIfInBounds]
    split
    · rename_i hij
      subst hij
      have hlt := (Array.getElem?_eq_some_iff.1 hi).1
      rw [if_pos hlt, hi]
    · rfl
  have hm : (w.setCell ⟨g, i, none⟩ v).heap = w.heap := by
    apply Array.ext_getElem?
    intro j
    by_cases hj : j = g
    · subst hj
      have h1 : (w.setCell ⟨j, i, none⟩ v).heap[j]? = some (.cells (cs.setIfInBounds i v) t (0, 0)) := h.set_ i v
      have h2 : w.heap[j]? = some (.cells cs t (0, 0)) := h
      rw [h1, h2, hcs]
    · exact Below.heap_setCell w ⟨g, i, none⟩ v j hj
  have : w.setCell ⟨g, i, none⟩ v = { w with heap := (w.setCell ⟨g, i, none⟩ v).heap } := rfl
  rw [this, hm]

/-- A result that lies in memory, and one that does not. -/
theorem results_cell_tmp {P : Program} {fn : Func} {t u : Tmp} {ty : TypeId} (h : fn.results = #[.cell t ty, .tmp u]) {tmps : Array Value} {w : World} {g : Nat} (ht : tmps.getD t undef = .pointer (some ⟨g, 0, none⟩)) {tb : TypeId} (cs : List Value) (hb : Blk w g tb cs.toArray)
    {d : TypeDesc} (hu : P.underlying ty = some d) (hd : d.isRow = true) (hi : (P.info? ty).map (·.size) = some cs.length) : (results fn tmps).run P w = .ok (.tuple #[.agg cs.toArray, tmps.getD u undef]) w := by
  have l1 := run_loadVar_mid (P := P) w g 0 ty cs d (fun j v hv => by rw [Nat.zero_add, hb.cell j]; simpa using hv) hu hd hi
  simp only [Array.getD_eq_getD_getElem?] at ht
  simp [results, h, ht, asAddr, l1]
theorem results_cell1 {P : Program} {fn : Func} {t : Tmp} {ty : TypeId} (h : fn.results = #[.cell t ty]) {tmps : Array Value} {w : World} {g : Nat} (ht : tmps.getD t undef = .pointer (some ⟨g, 0, none⟩)) {tb : TypeId} (cs : List Value) (hb : Blk w g tb cs.toArray)
    {d : TypeDesc} (hu : P.underlying ty = some d) (hd : d.isRow = true) (hi : (P.info? ty).map (·.size) = some cs.length) : (results fn tmps).run P w = .ok (.agg cs.toArray) w := by
  have l1 := run_loadVar_mid (P := P) w g 0 ty cs d (fun j v hv => by rw [Nat.zero_add, hb.cell j]; simpa using hv) hu hd hi
  simp only [Array.getD_eq_getD_getElem?] at ht
  simp [results, h, ht, asAddr, l1]
theorem Tryd.sizeP : (Tryd.prog.info? 24).map (·.size) = some 2 := by kernel_rfl

theorem as_hit_w2 (e : Addr) (t : Nat) (o0 : Value) (w : World) (hG : HG w) (ht : Blk w t 82 #[o0]) :
    Calls Tryd.prog 58 #[.iface 82 (.pointer (some e)), .iface 85 (.pointer (some ⟨t, 0, none⟩))] w fun ev w' => ev = .returned (.bool true) ∧
      Blk w' t 82 #[.pointer (some e)] ∧ (∀ g ty cs, g ≠ t → Blk w g ty cs → Blk w' g ty cs) ∧ ∀ B, B ≤ t → Below B w w' := by
  refine (as_hit_w e t o0 w hG ht).mono ?_
  rintro ev w' ⟨rfl, rfl⟩
  refine ⟨rfl, ((((ht.alloc _).alloc _).alloc _).alloc _).set_ 0 _, fun g ty cs hg hb => ((((hb.alloc _).alloc _).alloc _).alloc _).far hg _, fun B hB => ?_⟩
  have hlt := ht.lt
  exact (((((Below.refl B w).alloc (by omega) _).alloc (by simp; omega) _).alloc (by simp; omega) _).alloc (by simp; omega) _).setCell (p := ⟨t, 0, none⟩) hB _
theorem as_hit_f2 (no li pl : Int) (t : Nat) (o0 o1 o2 : Value) (w : World) (hG : HG w) (ht : Blk w t 78 #[o0, o1, o2]) :
    Calls Tryd.prog 58 #[faultV no li pl, .iface 81 (.pointer (some ⟨t, 0, none⟩))] w fun ev w' => ev = .returned (.bool true) ∧
      Blk w' t 78 #[.int .i64 no, .int .i64 li, .int .i64 pl] ∧ (∀ g ty cs, g ≠ t → Blk w g ty cs → Blk w' g ty cs) ∧ ∀ B, B ≤ t → Below B w w' := by
  refine (as_hit_f no li pl t o0 o1 o2 w hG ht).mono ?_
  rintro ev w' ⟨rfl, rfl⟩
  refine ⟨rfl, blk_setCells3 ((((ht.alloc _).alloc _).alloc _).alloc _) _ _ _, fun g ty cs hg hb => ?_, fun B hB => ?_⟩
  · rw [setCells_cons, setCells_cons, setCells_cons, setCells_nil]
    exact (((((((hb.alloc _).alloc _).alloc _).alloc _).far (p := ⟨t, 0, none⟩) hg _).far (p := ⟨t, 0 + 1, none⟩) hg _).far (p := ⟨t, 0 + 1 + 1, none⟩) hg _)
  · have hlt := ht.lt
    rw [setCells_cons, setCells_cons, setCells_cons, setCells_nil]
    exact (((((((Below.refl B w).alloc (by omega) _).alloc (by simp; omega) _).alloc (by simp; omega) _).alloc (by simp; omega) _).setCell (p := ⟨t, 0, none⟩) hB _).setCell (p := ⟨t, 0 + 1, none⟩) hB _).setCell (p := ⟨t, 0 + 1 + 1, none⟩) hB _

set_option maxRecDepth 100000 in
set_option maxHeartbeats 4000000 in
theorem refuse_e_calls (m : Int) (w : World) (hG : HG w) :
    Calls Tryd.prog 40 #[.iface 65 (.int .i64 m)] w fun e w' => e = .returned (.tuple #[zeroP, refusedV m]) ∧ Below w.heap.size w w' := by
  obtain ⟨g, hg⟩ : ∃ g, w.heap.size = g := ⟨_, rfl⟩
  go_enter Tryd.func40, Tryd.ntmps40
  obtain ⟨W1, hW1⟩ : ∃ W, w.alloc (.cells #[.int .i64 0, .slice none 0 0] 24) = W := ⟨_, rfl⟩
  obtain ⟨W2, hW2⟩ : ∃ W, W1.alloc (.cells #[.pointer none] 82) = W := ⟨_, rfl⟩
  have hb2 : Below w.heap.size w W2 := by rw [← hW2, ← hW1]; exact ((Below.refl _ _).alloc (Nat.le_refl _) _).alloc (by simp) _
  have hp1 : Blk W2 g 24 #[.int .i64 0, .slice none 0 0] := by rw [← hW2, ← hW1]; exact (blkNew hg).alloc _
  have HB2 := Lib.hid hb2
  have HP1 := Lib.hid hp1
  clear hb2 hp1
  go_wp2_with (fail)
  refine (as_errno_w m _ W2 (hG.below HB2.out)).mono ?_
  rintro e w3 ⟨rfl, hb3⟩
  have hp3 := HP1.out.below hb3 HP1.out.lt
  have HP3 := Lib.hid hp3
  have HB3 := Lib.hid (HB2.out.trans (hb3.mono HB2.out.size))
  have c0 : w3.cell? ⟨g, 0, none⟩ = some (.int .i64 0) := hp3.cell 0
  have c1 : w3.cell? ⟨g, 1, none⟩ = some (.slice none 0 0) := hp3.cell 1
  have z0 := hp3.frozen 0
  have z1 := hp3.frozen 1
  have s0 := setCell_same (v := .int .i64 0) (i := 0) hp3 rfl
  have s1 := setCell_same (v := .slice none 0 0) (i := 1) hp3 rfl
  clear hb3 hW1 hW2 hp3
  go_wp2_with (fail)
  exact ⟨rfl, _, results_cell_tmp Tryd.results40 rfl [.int .i64 0, .slice none 0 0] HP3.out Tryd.underlying24 rfl Tryd.sizeP, rfl, HB3.out⟩

set_option maxRecDepth 100000 in
set_option maxHeartbeats 4000000 in
theorem refuse_w_calls (no pl : Int) (gw : Nat) (w : World) (hG : HG w) (hw : Blk w gw 84 #[.int .i64 pl, .int .i64 no]) :
    Calls Tryd.prog 40 #[.iface 82 (.pointer (some ⟨gw, 0, none⟩))] w fun e w' => e = .returned (.tuple #[zeroP, faultV no 0 pl]) ∧ Below w.heap.size w w' := by
  obtain ⟨g, hg⟩ : ∃ g, w.heap.size = g := ⟨_, rfl⟩
  go_enter Tryd.func40, Tryd.ntmps40
  obtain ⟨W1, hW1⟩ : ∃ W, w.alloc (.cells #[.int .i64 0, .slice none 0 0] 24) = W := ⟨_, rfl⟩
  obtain ⟨W2, hW2⟩ : ∃ W, W1.alloc (.cells #[.pointer none] 82) = W := ⟨_, rfl⟩
  have hb2 : Below w.heap.size w W2 := by rw [← hW2, ← hW1]; exact ((Below.refl _ _).alloc (Nat.le_refl _) _).alloc (by simp) _
  have hp1 : Blk W2 g 24 #[.int .i64 0, .slice none 0 0] := by rw [← hW2, ← hW1]; exact (blkNew hg).alloc _
  obtain ⟨gt, hgt⟩ : ∃ g, W1.heap.size = g := ⟨_, rfl⟩
  have hgt2 : gt = g + 1 := by rw [← hgt, ← hW1]; simp [hg]
  have ht : Blk W2 gt 82 #[.pointer none] := by rw [← hW2]; exact blkNew hgt
  have hlt := hw.lt
  have HW := Lib.hid (hw.below hb2 hlt)
  have HT := Lib.hid ht
  have HB2 := Lib.hid hb2
  have HP1 := Lib.hid hp1
  have HGT2 := Lib.hid hgt2
  have HLT := Lib.hid hlt
  clear hb2 hp1 ht hw hgt2 hlt
  go_wp2_with (fail)
  refine (as_hit_w2 ⟨gw, 0, none⟩ gt _ W2 (hG.below HB2.out) HT.out).mono ?_
  rintro e w3 ⟨rfl, ht3, hk3, hb3⟩
  have hgt2 := HGT2.out
  have hlt := HLT.out
  have hp3 := hk3 g _ _ (by omega) HP1.out
  have HP3 := Lib.hid hp3
  have hw3 := hk3 gw _ _ (by omega) HW.out
  have HB3 := Lib.hid (HB2.out.trans (hb3 w.heap.size (by omega)))
  have c0 : w3.cell? ⟨g, 0, none⟩ = some (.int .i64 0) := hp3.cell 0
  have c1 : w3.cell? ⟨g, 1, none⟩ = some (.slice none 0 0) := hp3.cell 1
  have z0 := hp3.frozen 0
  have z1 := hp3.frozen 1
  have s0 := setCell_same (v := .int .i64 0) (i := 0) hp3 rfl
  have s1 := setCell_same (v := .slice none 0 0) (i := 1) hp3 rfl
  have s0' := setCell_same (w := w3.drew) (v := .int .i64 0) (i := 0) hp3 rfl
  have s1' := setCell_same (w := w3.drew) (v := .slice none 0 0) (i := 1) hp3 rfl
  have t0 : w3.cell? ⟨gt, 0, none⟩ = some (.pointer (some ⟨gw, 0, none⟩)) := ht3.cell 0
  have v0 : w3.cell? ⟨gw, 0, none⟩ = some (.int .i64 pl) := hw3.cell 0
  have v1 : w3.cell? ⟨gw, 1, none⟩ = some (.int .i64 no) := hw3.cell 1
  clear hb3 hW1 hW2 hp3 hw3 ht3 hk3 hgt hgt2 hlt
  go_upto_region 3 with fail
  go_region_held3 (fun w' => w'.cell? ⟨gt, 0, none⟩ = some (.pointer (some ⟨gw, 0, none⟩)) ∧ w'.cell? ⟨gw, 0, none⟩ = some (.int .i64 pl) ∧ w'.cell? ⟨gw, 1, none⟩ = some (.int .i64 no) ∧ w'.cell? ⟨g, 0, none⟩ = some (.int .i64 0) ∧ w'.cell? ⟨g, 1, none⟩ = some (.slice none 0 0) ∧ w'.frozen? ⟨g, 0, none⟩ = false ∧ w'.frozen? ⟨g, 1, none⟩ = false) (first | go_keep | fail) (fail)
  go_wp2_with (fail)
  exact ⟨rfl, _, results_cell_tmp Tryd.results40 rfl [.int .i64 0, .slice none 0 0] HP3.out.drew Tryd.underlying24 rfl Tryd.sizeP, rfl, HB3.out.drew⟩
end Go.Proofs.YtcgcgekefhhjhaaDoor
