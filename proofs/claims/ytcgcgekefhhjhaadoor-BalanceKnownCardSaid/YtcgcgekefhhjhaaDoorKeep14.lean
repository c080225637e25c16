/- custodykit's LentPosition, KeptPosition, custodyref0's SamePosition, balance.Same by contracts (printed by gen_keep14.py). -/
import Derived.Test.YtcgcgekefhhjhaaDoorSame14
import Derived.Test.YtcgcgekefhhjhaaDoorMarksKit
namespace Go.Proofs.YtcgcgekefhhjhaaDoor
set_option linter.unusedSimpArgs false
set_option linter.unusedVariables false
open Go.RowKit

/-- A position lent. -/
def LentPos (w : World) (a : Int) (l : List Mk) (e : Ending) (w' : World) : Prop :=
  ∃ g c, e = .returned (.agg #[.int .i64 a, .slice (some ⟨g, 0, none⟩) l.length c]) ∧ l.length + 16 ≤ c ∧ w'.ownsRow w.heap.size 37 2 (.slice (some ⟨g, 0, none⟩) (l.length + 16) c) (l.length + 16) (marksC (l ++ markMarkss)) ∧ Below w.heap.size w w'
theorem own_ne {w : World} {base : Nat} {n g0 : Nat} {v : Value} {xs : List Value} {t : TypeId} {cs : Array Value} (h : w.ownsRow base 37 2 v n xs) (hb : Blk w g0 t cs) (ht : 37 ≠ t) : v.ownBlock ≠ some g0 := own_blk_ne h hb ht
theorem own_far {w : World} {base n g0 i : Nat} {v : Value} {xs : List Value} (h : w.ownsRow base 37 2 v n xs) (hn : v.ownBlock ≠ some g0) (u : Value) : (w.setCell ⟨g0, i, none⟩ u).ownsRow base 37 2 v n xs := by
  refine ⟨h.1, ?_⟩
  rcases h.2 with h0 | ⟨g, cap, cur, rfl, h1, h2, h3⟩
  · exact .inl h0
  · exact .inr ⟨g, cap, cur, rfl, h1, (Below.heap_setCell w ⟨g0, i, none⟩ u g (fun e => hn (by have e' : g = g0 := e; subst e'; rfl))).trans h2, h3⟩
theorem own_base_le {w : World} {base base' n : Nat} {v : Value} {xs : List Value} (h : w.ownsRow base 37 2 v n xs) (hb : base' ≤ base) : w.ownsRow base' 37 2 v n xs := by
  refine ⟨h.1, ?_⟩
  rcases h.2 with h0 | ⟨g, cap, cur, rfl, h1, h2⟩
  · exact .inl h0
  · exact .inr ⟨g, cap, cur, rfl, Nat.le_trans hb h1, h2⟩

set_option maxRecDepth 100000 in
set_option maxHeartbeats 4000000 in
theorem lentPos_calls (a : Int) (l : List Mk) (A : Option Addr) (c B : Nat) (w : World) (hr0 : Reads w B 2 A l.length (marksC l)) (hB : B ≤ w.heap.size) (hlen : l.length * 16 ≤ 140737488351232) :
    Calls Tryd.prog 10 #[.agg #[.int .i64 a, .slice A l.length c]] w (LentPos w a l) := by
  obtain ⟨gp, hgp⟩ : ∃ g, w.heap.size = g := ⟨_, rfl⟩
  obtain ⟨W1, hW1⟩ : ∃ W, w.alloc (.cells #[.int .i64 a, .slice A l.length c] 24) = W := ⟨_, rfl⟩
  obtain ⟨W2, hW2⟩ : ∃ W, W1.alloc (.cells #[.int .i64 0, .slice none 0 0] 24) = W := ⟨_, rfl⟩
  obtain ⟨gr, hgr⟩ : ∃ g, W1.heap.size = g := ⟨_, rfl⟩
  have hb1 : Below w.heap.size w W1 := hW1 ▸ (Below.refl _ _).alloc (Nat.le_refl _) _
  have hb2 : Below w.heap.size w W2 := hW2 ▸ hb1.alloc hb1.size _
  have hp : Blk W2 gp 24 #[.int .i64 a, .slice A l.length c] := by rw [← hW2, ← hW1]; exact (blkNew hgp).alloc _
  have hr : Blk W2 gr 24 #[.int .i64 0, .slice none 0 0] := by rw [← hW2]; exact blkNew hgr
  have hgr2 : gr = gp + 1 := by rw [← hgr, ← hW1]; simp [hgp]
  have hge : w.heap.size ≤ gr := by omega
  have HR0 := Lib.hid (hr0.below (hb2.mono hB))
  have HBB := Lib.hid (Nat.le_trans hB hb2.size)
  have HB2 := Lib.hid hb2
  have HP := Lib.hid hp
  have HR := Lib.hid hr
  have HGE := Lib.hid hge
  have p0 : W2.cell? ⟨gp, 0, none⟩ = some (.int .i64 a) := hp.cell 0
  have p1 : W2.cell? ⟨gp, 1, none⟩ = some (.slice A l.length c) := hp.cell 1
  clear hr0 hb1 hb2 hp hr hB hgr2 hge
  go_enter Tryd.func10, Tryd.ntmps10
  go_wp2_with (fail)
  refine (lentMarks_calls l A c B W2 HR0.out HBB.out hlen).mono ?_
  rintro e w3 ⟨g, c3, rfl, hc3, hown, hb3⟩
  have hp3 := HP.out.below hb3 HP.out.lt
  have hr3 := HR.out.below hb3 HR.out.lt
  have HB3 := Lib.hid (HB2.out.trans (hb3.mono HB2.out.size))
  have HO3 := Lib.hid (own_base_le hown HB2.out.size)
  have HR3 := Lib.hid hr3
  have q0 : w3.cell? ⟨gp, 0, none⟩ = some (.int .i64 a) := hp3.cell 0
  have m0 : w3.cell? ⟨gr, 0, none⟩ = some (.int .i64 0) := hr3.cell 0
  have m1 : w3.cell? ⟨gr, 1, none⟩ = some (.slice none 0 0) := hr3.cell 1
  have z0 := hr3.frozen 0
  have z1 := hr3.frozen 1
  clear hb3 hp3 hr3 hown p0 p1 hW1 hW2 hgr hgp
  go_wp2_with (fail)
  have hrr := (HR3.out.set_ 0 (.int .i64 a)).set_ 1 (.slice (some ⟨g, 0, none⟩) l.length c3)
  refine ⟨rfl, _, results_cell1 Tryd.results10 rfl [.int .i64 a, .slice (some ⟨g, 0, none⟩) l.length c3] hrr Tryd.underlying24 rfl Tryd.sizeP, g, c3, rfl, hc3, ?_, ?_⟩
  · have h1 := own_far (i := 0) HO3.out (own_ne HO3.out HR3.out (by decide)) (.int .i64 a)
    exact own_far (i := 1) h1 (own_ne h1 (HR3.out.set_ 0 _) (by decide)) _
  · exact (HB3.out.setCell (p := ⟨gr, 0, none⟩) HGE.out _).setCell (p := ⟨gr, 1, none⟩) HGE.out _

set_option maxRecDepth 100000 in
set_option maxHeartbeats 4000000 in
theorem samePos_calls (a b : Int) (l m : List Mk) (A D : Option Addr) (c d B : Nat) (w : World) (h1 : Reads w B 2 A l.length (marksC l)) (h2 : Reads w B 2 D m.length (marksC m)) (hB : B ≤ w.heap.size) (hlen : l.length * 16 ≤ 140737488351232) :
    Calls Tryd.prog 12 #[.agg #[.int .i64 a, .slice A l.length c], .agg #[.int .i64 b, .slice D m.length d]] w fun e w' => e = .returned (.bool (a == b && decide (l = m))) ∧ Below w.heap.size w w' := by
  obtain ⟨gp, hgp⟩ : ∃ g, w.heap.size = g := ⟨_, rfl⟩
  obtain ⟨W1, hW1⟩ : ∃ W, w.alloc (.cells #[.int .i64 a, .slice A l.length c] 24) = W := ⟨_, rfl⟩
  obtain ⟨W2, hW2⟩ : ∃ W, W1.alloc (.cells #[.int .i64 b, .slice D m.length d] 24) = W := ⟨_, rfl⟩
  obtain ⟨gr, hgr⟩ : ∃ g, W1.heap.size = g := ⟨_, rfl⟩
  have hb1 : Below w.heap.size w W1 := hW1 ▸ (Below.refl _ _).alloc (Nat.le_refl _) _
  have hb2 : Below w.heap.size w W2 := hW2 ▸ hb1.alloc hb1.size _
  have hp : Blk W2 gp 24 #[.int .i64 a, .slice A l.length c] := by rw [← hW2, ← hW1]; exact (blkNew hgp).alloc _
  have hr : Blk W2 gr 24 #[.int .i64 b, .slice D m.length d] := by rw [← hW2]; exact blkNew hgr
  have hgr2 : gr = gp + 1 := by rw [← hgr, ← hW1]; simp [hgp]
  have HB2 := Lib.hid hb2
  have R1 := Lib.hid (h1.below (hb2.mono hB))
  have R2 := Lib.hid (h2.below (hb2.mono hB))
  have HBB := Lib.hid (Nat.le_trans hB hb2.size)
  have p0 : W2.cell? ⟨gp, 0, none⟩ = some _ := hp.cell 0
  have p1 : W2.cell? ⟨gp, 1, none⟩ = some _ := hp.cell 1
  have q0 : W2.cell? ⟨gr, 0, none⟩ = some _ := hr.cell 0
  have q1 : W2.cell? ⟨gr, 1, none⟩ = some _ := hr.cell 1
  clear h1 h2 hb1 hb2 hp hr hB hgr2
  obtain ⟨r, hr⟩ : ∃ r, decide (l = m) = r := ⟨_, rfl⟩
  have HRR := Lib.hid hr
  clear hr
  by_cases hab : a = b
  · have hd : (a == b && decide (l = m)) = r := by rw [HRR.out]; simp [hab]
    rw [hd]
    clear hd
    subst hab
    go_enter Tryd.func12, Tryd.ntmps12
    go_wp2_with (go_at_call 35; refine (sameMarks_calls l m A D c d W2 (R1.out.more HBB.out) (R2.out.more HBB.out) (by omega)).mono ?_; rintro e w3 ⟨rfl, hb3⟩; rw [HRR.out])
    go_ret
    exact ⟨rfl, HB2.out.trans (hb3.mono HB2.out.size)⟩
  · have hab' : (a == b) = false := by simpa using hab
    have hd : (a == b && decide (l = m)) = false := by rw [hab']; rfl
    rw [hd]
    clear hd
    go_enter Tryd.func12, Tryd.ntmps12
    go_wp2_with (fail)
    go_ret
    exact ⟨rfl, HB2.out⟩

set_option maxRecDepth 100000 in
set_option maxHeartbeats 4000000 in
theorem bSame_calls (a b : Int) (l m : List Mk) (A D : Option Addr) (c d B : Nat) (w : World) (h1 : Reads w B 2 A l.length (marksC l)) (h2 : Reads w B 2 D m.length (marksC m)) (hB : B ≤ w.heap.size) (hlen : l.length * 16 ≤ 140737488351232) :
    Calls Tryd.prog 11 #[.agg #[.int .i64 a, .slice A l.length c], .agg #[.int .i64 b, .slice D m.length d]] w fun e w' => e = .returned (.bool (a == b && decide (l = m))) ∧ Below w.heap.size w w' := by
  obtain ⟨gp, hgp⟩ : ∃ g, w.heap.size = g := ⟨_, rfl⟩
  obtain ⟨W1, hW1⟩ : ∃ W, w.alloc (.cells #[.int .i64 a, .slice A l.length c] 24) = W := ⟨_, rfl⟩
  obtain ⟨W2, hW2⟩ : ∃ W, W1.alloc (.cells #[.int .i64 b, .slice D m.length d] 24) = W := ⟨_, rfl⟩
  obtain ⟨gr, hgr⟩ : ∃ g, W1.heap.size = g := ⟨_, rfl⟩
  have hb1 : Below w.heap.size w W1 := hW1 ▸ (Below.refl _ _).alloc (Nat.le_refl _) _
  have hb2 : Below w.heap.size w W2 := hW2 ▸ hb1.alloc hb1.size _
  have hp : Blk W2 gp 24 #[.int .i64 a, .slice A l.length c] := by rw [← hW2, ← hW1]; exact (blkNew hgp).alloc _
  have hr : Blk W2 gr 24 #[.int .i64 b, .slice D m.length d] := by rw [← hW2]; exact blkNew hgr
  have hgr2 : gr = gp + 1 := by rw [← hgr, ← hW1]; simp [hgp]
  have HB2 := Lib.hid hb2
  have R1 := Lib.hid (h1.below (hb2.mono hB))
  have R2 := Lib.hid (h2.below (hb2.mono hB))
  have HBB := Lib.hid (Nat.le_trans hB hb2.size)
  have p0 : W2.cell? ⟨gp, 0, none⟩ = some _ := hp.cell 0
  have p1 : W2.cell? ⟨gp, 1, none⟩ = some _ := hp.cell 1
  have q0 : W2.cell? ⟨gr, 0, none⟩ = some _ := hr.cell 0
  have q1 : W2.cell? ⟨gr, 1, none⟩ = some _ := hr.cell 1
  clear h1 h2 hb1 hb2 hp hr hB hgr2
  obtain ⟨r, hr⟩ : ∃ r, decide (l = m) = r := ⟨_, rfl⟩
  have HRR := Lib.hid hr
  clear hr
  by_cases hab : a = b
  · have hd : (a == b && decide (l = m)) = r := by rw [HRR.out]; simp [hab]
    rw [hd]
    clear hd
    subst hab
    go_enter Tryd.func11, Tryd.ntmps11
    go_wp2_with (go_at_call 34; refine (equalM_calls l m A D c d W2 (R1.out.more HBB.out) (R2.out.more HBB.out) (by omega)).mono ?_; rintro e w3 ⟨rfl, hb3⟩; rw [HRR.out])
    go_ret
    exact ⟨rfl, HB2.out.trans (hb3.mono HB2.out.size)⟩
  · have hab' : (a == b) = false := by simpa using hab
    have hd : (a == b && decide (l = m)) = false := by rw [hab']; rfl
    rw [hd]
    clear hd
    go_enter Tryd.func11, Tryd.ntmps11
    go_wp2_with (fail)
    go_ret
    exact ⟨rfl, HB2.out⟩

set_option maxRecDepth 100000 in
set_option maxHeartbeats 4000000 in
theorem keptPos_calls (a : Int) (l : List Mk) (g : Nat) (A : Option Addr) (oc c B : Nat) (w : World) (h1 : Reads w B 2 (some ⟨g, 0, none⟩) (l.length + 16) (marksC (l ++ markMarkss))) (hoc : l.length + 16 ≤ oc) (h2 : Reads w B 2 A l.length (marksC l)) (hB : B ≤ w.heap.size) (hlen : l.length ≤ 140737488351232) :
    Calls Tryd.prog 13 #[.agg #[.int .i64 a, .slice (some ⟨g, 0, none⟩) l.length oc], .agg #[.int .i64 a, .slice A l.length c]] w fun e w' => e = .returned (.bool true) ∧ Below w.heap.size w w' := by
  obtain ⟨gp, hgp⟩ : ∃ g, w.heap.size = g := ⟨_, rfl⟩
  obtain ⟨W1, hW1⟩ : ∃ W, w.alloc (.cells #[.int .i64 a, .slice (some ⟨g, 0, none⟩) l.length oc] 24) = W := ⟨_, rfl⟩
  obtain ⟨W2, hW2⟩ : ∃ W, W1.alloc (.cells #[.int .i64 a, .slice A l.length c] 24) = W := ⟨_, rfl⟩
  obtain ⟨gr, hgr⟩ : ∃ g, W1.heap.size = g := ⟨_, rfl⟩
  have hb1 : Below w.heap.size w W1 := hW1 ▸ (Below.refl _ _).alloc (Nat.le_refl _) _
  have hb2 : Below w.heap.size w W2 := hW2 ▸ hb1.alloc hb1.size _
  have hp : Blk W2 gp 24 #[.int .i64 a, .slice (some ⟨g, 0, none⟩) l.length oc] := by rw [← hW2, ← hW1]; exact (blkNew hgp).alloc _
  have hr : Blk W2 gr 24 #[.int .i64 a, .slice A l.length c] := by rw [← hW2]; exact blkNew hgr
  have hgr2 : gr = gp + 1 := by rw [← hgr, ← hW1]; simp [hgp]
  have HB2 := Lib.hid hb2
  have R1 := Lib.hid (h1.below (hb2.mono hB))
  have R2 := Lib.hid (h2.below (hb2.mono hB))
  have HBB := Lib.hid (Nat.le_trans hB hb2.size)
  have p0 : W2.cell? ⟨gp, 0, none⟩ = some _ := hp.cell 0
  have p1 : W2.cell? ⟨gp, 1, none⟩ = some _ := hp.cell 1
  have q0 : W2.cell? ⟨gr, 0, none⟩ = some _ := hr.cell 0
  have q1 : W2.cell? ⟨gr, 1, none⟩ = some _ := hr.cell 1
  clear h1 h2 hb1 hb2 hp hr hB hgr2
  go_enter Tryd.func13, Tryd.ntmps13
  go_wp2_with (go_at_call 36; refine (keptMarks_calls l g A oc c B W2 R1.out hoc R2.out HBB.out hlen).mono ?_; rintro e w3 ⟨rfl, hb3⟩)
  go_ret
  exact ⟨rfl, HB2.out.trans (hb3.mono HB2.out.size)⟩
end Go.Proofs.YtcgcgekefhhjhaaDoor
