/- custodylaw14's seven and is by contracts. -/
import Derived.Test.YtcgcgekefhhjhaaDoorEdged14
namespace Go.Proofs.YtcgcgekefhhjhaaDoor
set_option linter.unusedSimpArgs false
set_option linter.unusedVariables false
open Go.RowKit

set_option maxRecDepth 100000 in
set_option maxHeartbeats 4000000 in
theorem seven_calls (a : Int) (w : World) :
    Calls Tryd.prog 52 #[.int .i64 a] w (fun e w' => ∃ g, e = .returned (.agg #[.int .i64 a, .slice (some ⟨g, 0, none⟩) 1 1]) ∧ Reads w' w'.heap.size 2 (some ⟨g, 0, none⟩) 1 [.int .i64 7, .int .i64 3] ∧ Below w.heap.size w w') := by
  obtain ⟨gp, hgp⟩ : ∃ g, w.heap.size = g := ⟨_, rfl⟩
  obtain ⟨W1, hW1⟩ : ∃ W, w.alloc (.cells #[.int .i64 0, .slice none 0 0] 24) = W := ⟨_, rfl⟩
  obtain ⟨gs, hgs⟩ : ∃ g, W1.heap.size = g := ⟨_, rfl⟩
  obtain ⟨W2, hW2⟩ : ∃ W, W1.alloc (.cells #[.int .i64 7, .int .i64 3] 37) = W := ⟨_, rfl⟩
  have hb1 : Below w.heap.size w W1 := hW1 ▸ (Below.refl _ _).alloc (Nat.le_refl _) _
  have hb2 : Below w.heap.size w W2 := hW2 ▸ hb1.alloc hb1.size _
  have HP : Hid (Blk W2 gp 24 #[.int .i64 0, .slice none 0 0]) := by rw [← hW2, ← hW1]; exact (blkNew hgp).alloc _
  have HS : Hid (Blk W2 gs 37 #[.int .i64 7, .int .i64 3]) := by rw [← hW2]; exact blkNew hgs
  have HGE : Hid (w.heap.size ≤ gp) := Nat.le_of_eq hgp
  have hne : gp ≠ gs := by rw [← hgs, ← hW1]; simp [hgp]
  have HNE := Lib.hid hne
  have HB := Lib.hid hb2
  have y0 := HP.out.frozen 0
  have y1 := HP.out.frozen 1
  have p0 : W2.cell? ⟨gp, 0, none⟩ = some (.int .i64 0) := HP.out.cell 0
  have p1 : W2.cell? ⟨gp, 1, none⟩ = some (.slice none 0 0) := HP.out.cell 1
  clear hb1 hb2 hne
  go_enter Tryd.func52, Tryd.ntmps52
  go_wp2_with (fail)
  have hrr := (HP.out.set_ 0 (.int .i64 a)).set_ 1 (.slice (some ⟨gs, 0, none⟩) 1 1)
  have hss := (HS.out.far (p := ⟨gp, 0, none⟩) HNE.out.symm (.int .i64 a)).far (p := ⟨gp, 1, none⟩) HNE.out.symm (.slice (some ⟨gs, 0, none⟩) 1 1)
  refine ⟨rfl, _, results_cell1 Tryd.results52 rfl [.int .i64 a, .slice (some ⟨gs, 0, none⟩) 1 1] hrr Tryd.underlying24 rfl Tryd.sizeP, gs, rfl, ?_, ?_⟩
  · exact ⟨rfl, fun _ => ⟨_, rfl, hss.lt, blk_cells hss⟩⟩
  · exact (HB.out.setCell (p := ⟨gp, 0, none⟩) HGE.out _).setCell (p := ⟨gp, 1, none⟩) HGE.out _

/-- A list of int64s, as law's is reads it: names and quantities one after another. -/
def PairsAt (w : World) (X : Option Addr) (l : List Mk) : Prop :=
  ∀ i (h : i < l.length), ∃ g, X = some ⟨g, 0, none⟩ ∧ w.cell? ⟨g, 2 * i, none⟩ = some (.int .i64 l[i].m) ∧ w.cell? ⟨g, 2 * i + 1, none⟩ = some (.int .i64 l[i].q)

set_option maxRecDepth 100000 in
set_option maxHeartbeats 4000000 in
theorem isP_calls (a : Int) (l : List Mk) (A X : Option Addr) (c cx B n2 : Nat) (w : World) (hr : Reads w B 2 A l.length (marksC l)) (hB : B ≤ w.heap.size) (hX : PairsAt w X l) (hn2 : n2 = 2 * l.length) (hlen : l.length ≤ 1000) :
    Calls Tryd.prog 53 #[.agg #[.int .i64 a, .slice A l.length c], .nilIface, .int .i64 a, .slice X n2 cx] w (fun e w' => e = .returned (.bool true) ∧ Below w.heap.size w w') := by
  subst hn2
  obtain ⟨gp, hgp⟩ : ∃ g, w.heap.size = g := ⟨_, rfl⟩
  obtain ⟨W1, hW1⟩ : ∃ W, w.alloc (.cells #[.int .i64 a, .slice A l.length c] 24) = W := ⟨_, rfl⟩
  have hb1 : Below w.heap.size w W1 := hW1 ▸ (Below.refl _ _).alloc (Nat.le_refl _) _
  have HP : Hid (Blk W1 gp 24 #[.int .i64 a, .slice A l.length c]) := by rw [← hW1]; exact blkNew hgp
  have HR := Lib.hid (hr.below (hb1.mono hB))
  have HX : Hid (PairsAt W1 X l) := fun i h => by
    obtain ⟨g, h1, h2, h3⟩ := hX i h
    exact ⟨g, h1, cell_below hb1 h2, cell_below hb1 h3⟩
  have HB := Lib.hid hb1
  have HLN := Lib.hid hlen
  have p0 : W1.cell? ⟨gp, 0, none⟩ = some (.int .i64 a) := HP.out.cell 0
  have p1 : W1.cell? ⟨gp, 1, none⟩ = some (.slice A l.length c) := HP.out.cell 1
  have hm1 : IntKind.i64.wrap (2 * (l.length : Int)) = ((2 * l.length : Nat) : Int) := by rw [IntWalk.i64_in _ (by omega)]; omega
  clear hr hX hb1 hlen
  go_enter Tryd.func53, Tryd.ntmps53
  go_wp2_with (fail)
  go_loopw [9] (fun i wr => ∃ k : Nat, k ≤ l.length ∧ i = .int .i64 k ∧ Below W1.heap.size W1 wr) (fun i _ => l.length - (intOf i).toNat)
  case atStart => exact ⟨0, Nat.zero_le _, rfl, Below.refl _ _⟩
  case round =>
    obtain ⟨k, hk, rfl, hbr⟩ := hrel
    have HBR := Lib.hid hbr
    have PR := Lib.hid (HP.out.below hbr HP.out.lt)
    have RR := Lib.hid (HR.out.below (hbr.mono (Nat.le_trans hB HB.out.size)))
    clear p0 p1 hbr
    have p0 : wr.cell? ⟨gp, 0, none⟩ = some (.int .i64 a) := PR.out.cell 0
    have p1 : wr.cell? ⟨gp, 1, none⟩ = some (.slice A l.length c) := PR.out.cell 1
    by_cases hlt : k < l.length
    · have hkl : (k : Int) < (l.length : Int) := by omega
      have hk1 : k ≤ 1000 := by have := HLN.out; omega
      obtain ⟨ad, rfl, _, e0, e1⟩ := marks_at RR.out hlt
      obtain ⟨gx, rfl, z0, z1⟩ := HX.out k hlt
      have x0 := cell_below HBR.out z0
      have x1 := cell_below HBR.out z1
      clear z0 z1
      generalize l[k] = x at e0 e1 x0 x1
      have hw1 : IntKind.i64.wrap (2 * (k : Int)) = ((2 * k : Nat) : Int) := by rw [IntWalk.i64_in _ (by omega)]; omega
      have hw2 : IntKind.i64.wrap (((2 * k : Nat) : Int) + 1) = ((2 * k + 1 : Nat) : Int) := by rw [IntWalk.i64_in _ (by omega)]; omega
      have hl1 : ((2 * k : Nat) : Int) < ((2 * l.length : Nat) : Int) := by omega
      have hl2 : ((2 * k + 1 : Nat) : Int) < ((2 * l.length : Nat) : Int) := by omega
      go_wp2_with (fail)
      go_quiet (fail)
      go_wp2_with (fail)
      go_roundw
      case rel => exact ⟨k + 1, by omega, by go_num, below_drewN HBR.out _⟩
      case measure => simp [intOf]; omega
    · obtain rfl : k = l.length := by omega
      go_wp2
      go_ret
      exact ⟨rfl, HB.out.trans (HBR.out.mono HB.out.size)⟩
end Go.Proofs.YtcgcgekefhhjhaaDoor
