/- Store: shard, Shards. -/
import Derived.Test.YtflkddllofeiaaaDoorStore
import Derived.Deep.RegionHeld3
namespace Go.Proofs.YtflkddllofeiaaaDoor
set_option linter.unusedSimpArgs false
set_option linter.unusedVariables false
open Go.RowKit Go.MapKept Go.ChangeMaps Go.Maps

theorem cntS_nat {n : Nat} (h : 1 ≤ n ∧ n ≤ 64) : cntS (n : Int) = n := by unfold cntS; split; omega; split <;> omega
def StV.map (s : StV) (k : Key) : Nat := s.ms.getD (s.sh k) 0
theorem StAt.map_eq {w : World} {s : StV} (h : StAt w s) (k : Key) : s.map k = s.ms[s.sh k]'(h.sh_lt k) := by
  unfold StV.map
  rw [List.getD_eq_getElem?_getD, List.getElem?_eq_getElem (h.sh_lt k)]
  rfl
theorem StAt.at_ {w : World} {s : StV} (h : StAt w s) (k : Key) : w.cell? ⟨s.gs, s.sh k, none⟩ = some (.map (some (s.map k))) := by
  have := h.row.cell (s.sh k)
  rw [this, h.map_eq]
  have hl := h.sh_lt k
  simp [eM, hl]
set_option maxRecDepth 100000 in
set_option maxHeartbeats 1000000 in
theorem shardS_calls (s : StV) (k : Key) (w : World) (h : StAt w s) : Calls Tryd.prog 32 #[.pointer (some ⟨s.p, 0, none⟩), .agg #[.int .i64 k.acc, .int .i64 k.ast]] w
    fun e w' => e = .returned (.map (some (s.map k))) ∧ Below w.heap.size w w' := by
  have hc := shard_calls k s.n
  rw [cntS_nat h.n1] at hc
  have hb0 : Below w.heap.size w (w.alloc (.cells #[.int .i64 k.acc, .int .i64 k.ast] 23)) := (Below.refl _ _).alloc (Nat.le_refl _) _
  have h1 := h.below hb0
  have p0 : (w.alloc (.cells #[.int .i64 k.acc, .int .i64 k.ast] 23)).cell? ⟨s.p, 0, none⟩ = some (.slice (some ⟨s.gs, 0, none⟩) s.n s.n) := h1.blk.cell 0
  have p1 := h1.at_ k
  have hB := Blk.new w 23 #[.int .i64 k.acc, .int .i64 k.ast]
  have q0 : (w.alloc (.cells #[.int .i64 k.acc, .int .i64 k.ast] 23)).cell? ⟨w.heap.size, 0, none⟩ = some (.int .i64 k.acc) := hB.cell 0
  have q1 : (w.alloc (.cells #[.int .i64 k.acc, .int .i64 k.ast] 23)).cell? ⟨w.heap.size, 1, none⟩ = some (.int .i64 k.ast) := hB.cell 1
  have hl := h.sh_lt k
  have hlt : ((s.sh k : Nat) : Int) < s.n := by unfold StV.n; omega
  have hsh : shardOf k s.n = s.sh k := rfl
  rw [hsh] at hc
  obtain ⟨j, hj⟩ : ∃ j, s.sh k = j := ⟨_, rfl⟩
  obtain ⟨n, hn⟩ : ∃ n, s.n = n := ⟨_, rfl⟩
  obtain ⟨m, hm⟩ : ∃ m, s.map k = m := ⟨_, rfl⟩
  rw [hm] at p1 ⊢
  rw [hn] at p0 hlt hc
  rw [hj] at p1 hlt hc
  obtain ⟨W, hW⟩ : ∃ X, w.alloc (.cells #[.int .i64 k.acc, .int .i64 k.ast] 23) = X := ⟨_, rfl⟩
  obtain ⟨g, hg⟩ : ∃ g, w.heap.size = g := ⟨_, rfl⟩
  rw [hW] at p0 p1 q0 q1 hb0
  rw [hg] at q0 q1
  have HC := Lib.hid hc
  have HB0 := Lib.hid hb0
  have HW := Lib.hid hW
  have HG := Lib.hid hg
  clear hc hb0 h1 hB hl hsh hj hn hm hW hg h
  go_enter Tryd.func32, Tryd.ntmps32
  go_wp2_with (fail)
  rw [HW.out, HG.out]
  go_region_held3 (fun w' => w'.cell? ⟨g, 0, none⟩ = some (.int .i64 k.acc) ∧ w'.cell? ⟨g, 1, none⟩ = some (.int .i64 k.ast) ∧ w'.cell? ⟨s.p, 0, none⟩ = some (.slice (some ⟨s.gs, 0, none⟩) n n) ∧ w'.cell? ⟨s.gs, j, none⟩ = some (.map (some m)))
    (first | go_keep | fail)
    ((go_at_call 7; refine (HC.out _).mono ?_; rintro e w4 ⟨rfl, hb4⟩; have r0 : w4.cell? ⟨g, 0, none⟩ = some (.int .i64 k.acc) := cell_below (w := W.drew) hb4 q0; have r1 : w4.cell? ⟨g, 1, none⟩ = some (.int .i64 k.ast) := cell_below (w := W.drew) hb4 q1; have r2 : w4.cell? ⟨s.p, 0, none⟩ = some (.slice (some ⟨s.gs, 0, none⟩) n n) := cell_below (w := W.drew) hb4 p0; have r3 : w4.cell? ⟨s.gs, j, none⟩ = some (.map (some m)) := cell_below (w := W.drew) hb4 p1; have HB4 := Lib.hid hb4; clear hb4))
  go_wp2
  go_ret
  have hb1 : Below W.heap.size W w4 := (Below.refl _ _).drew.trans HB4.out
  rw [HG.out]
  have hb0 := HB0.out
  rw [HG.out] at hb0
  exact ⟨rfl, hb0.trans (hb1.mono (by have := HB0.out.size; rw [HG.out] at this; exact this))⟩
theorem shards_calls (s : StV) (w : World) (h : StAt w s) : Calls Tryd.prog 23 #[.pointer (some ⟨s.p, 0, none⟩)] w fun e w' => e = .returned (.int .i64 s.n) ∧ w' = w := by
  have p0 : w.cell? ⟨s.p, 0, none⟩ = some (.slice (some ⟨s.gs, 0, none⟩) s.n s.n) := h.blk.cell 0
  clear h
  go_enter Tryd.func23, Tryd.ntmps23
  go_wp2
  go_ret
  exact ⟨rfl, rfl⟩
end Go.Proofs.YtflkddllofeiaaaDoor
