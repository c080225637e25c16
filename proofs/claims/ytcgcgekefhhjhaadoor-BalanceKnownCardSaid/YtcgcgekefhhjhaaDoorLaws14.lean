/- The walks of the laws BalanceSame and BalanceChecks (printed by gen_laws14.py). -/
import Derived.Test.YtcgcgekefhhjhaaDoorKeep14
import Derived.Test.YtcgcgekefhhjhaaDoorTold14
import Derived.Test.YtcgcgekefhhjhaaDoorInsert14
namespace Go.Proofs.YtcgcgekefhhjhaaDoor
set_option linter.unusedSimpArgs false
set_option linter.unusedVariables false
open Go.RowKit

theorem lent_reads {w : World} {base g : Nat} {l : List Mk} {c : Nat} (h : w.ownsRow base 37 2 (.slice (some ⟨g, 0, none⟩) (l.length + 16) c) (l.length + 16) (marksC (l ++ markMarkss))) : Reads w w.heap.size 2 (some ⟨g, 0, none⟩) (l.length + 16) (marksC (l ++ markMarkss)) := Reads.of_own h
theorem reads_pre {w : World} {B : Nat} {A : Option Addr} {n : Nat} {l m : List Mk} (h : Reads w B 2 A n (marksC (l ++ m))) (hn : n = l.length + m.length) : Reads w B 2 A l.length (marksC l) := by
  refine ⟨marksC_len l, fun h0 => ?_⟩
  obtain ⟨ad, e, hb, hc⟩ := h.2 (by omega)
  refine ⟨ad, e, hb, fun j u hu => hc j u ?_⟩
  rw [marksC_append, List.getElem?_append_left (List.getElem?_eq_some_iff.1 hu).1]
  exact hu

set_option maxRecDepth 100000 in
set_option maxHeartbeats 4000000 in
theorem lawSame_calls (a b : Int) (l m : List Mk) (A D : Option Addr) (c d B : Nat) (w : World) (h1 : PosOK w B a l A) (h2 : PosOK w B b m D) (hB : B ≤ w.heap.size) (hG : HG w) :
    Calls Tryd.prog 3 #[.agg #[.int .i64 a, .slice A l.length c], .agg #[.int .i64 b, .slice D m.length d]] w fun e w' => e = .returned (.bool true) ∧ Below w.heap.size w w' := by
  have Ha_0 := Lib.hid (h1)
  have Hb_0 := Lib.hid (h2)
  have HBB_0 : Hid (B ≤ w.heap.size) := Lib.hid (hB)
  have HG_0 := Lib.hid (hG)
  have HB_0 := Lib.hid (Below.refl w.heap.size w)
  clear h1 h2 hB hG
  obtain ⟨ga, hga⟩ : ∃ g, w.heap.size = g := ⟨_, rfl⟩
  obtain ⟨W1, hW1⟩ : ∃ X, w.alloc (.cells #[.int .i64 a, .slice A l.length c] 24) = X := ⟨_, rfl⟩
  have hbW1 : Below w.heap.size w W1 := hW1 ▸ (Below.refl _ _).alloc (Nat.le_refl _) _
  have hna : Blk W1 ga 24 #[.int .i64 a, .slice A l.length c] := by rw [← hW1]; exact blkNew hga
  have Ha_1 := Lib.hid (Ha_0.out.below (hbW1.mono HBB_0.out))
  have Hb_1 := Lib.hid (Hb_0.out.below (hbW1.mono HBB_0.out))
  have HBB_1 : Hid (B ≤ W1.heap.size) := Lib.hid (Nat.le_trans HBB_0.out hbW1.size)
  have HG_1 := Lib.hid (HG_0.out.below hbW1)
  have HB_1 := Lib.hid (HB_0.out.trans (hbW1.mono HB_0.out.size))
  have Pa_1 := Lib.hid (hna)
  clear hbW1 hna
  obtain ⟨gb, hgb⟩ : ∃ g, W1.heap.size = g := ⟨_, rfl⟩
  obtain ⟨W2, hW2⟩ : ∃ X, W1.alloc (.cells #[.int .i64 b, .slice D m.length d] 24) = X := ⟨_, rfl⟩
  have hbW2 : Below W1.heap.size W1 W2 := hW2 ▸ (Below.refl _ _).alloc (Nat.le_refl _) _
  have hnb : Blk W2 gb 24 #[.int .i64 b, .slice D m.length d] := by rw [← hW2]; exact blkNew hgb
  have Ha_2 := Lib.hid (Ha_1.out.below (hbW2.mono HBB_1.out))
  have Hb_2 := Lib.hid (Hb_1.out.below (hbW2.mono HBB_1.out))
  have HBB_2 : Hid (B ≤ W2.heap.size) := Lib.hid (Nat.le_trans HBB_1.out hbW2.size)
  have HG_2 := Lib.hid (HG_1.out.below hbW2)
  have HB_2 := Lib.hid (HB_1.out.trans (hbW2.mono HB_1.out.size))
  have Pa_2 := Lib.hid (Pa_1.out.below hbW2 Pa_1.out.lt)
  have Pb_2 := Lib.hid (hnb)
  clear hbW2 hnb
  go_enter Tryd.func3, Tryd.ntmps3
  have cPa0_2 : W2.cell? ⟨ga, 0, none⟩ = some (.int .i64 a) := Pa_2.out.cell 0
  have cPa1_2 : W2.cell? ⟨ga, 1, none⟩ = some (.slice A l.length c) := Pa_2.out.cell 1
  go_wp2_with (fail)
  refine (lentPos_calls a l A c B W2 Ha_2.out.r HBB_2.out Ha_2.out.len).mono ?_
  rintro e w3 ⟨g1, c1, rfl, hc1, howng1, hbw3⟩
  clear hW1 hga hW2 hgb cPa0_2 cPa1_2
  have Ha_3 := Lib.hid (Ha_2.out.below (hbw3.mono HBB_2.out))
  have Hb_3 := Lib.hid (Hb_2.out.below (hbw3.mono HBB_2.out))
  have HBB_3 : Hid (B ≤ w3.heap.size) := Lib.hid (Nat.le_trans HBB_2.out hbw3.size)
  have HG_3 := Lib.hid (HG_2.out.below hbw3)
  have HB_3 := Lib.hid (HB_2.out.trans (hbw3.mono HB_2.out.size))
  have Pa_3 := Lib.hid (Pa_2.out.below hbw3 Pa_2.out.lt)
  have Pb_3 := Lib.hid (Pb_2.out.below hbw3 Pb_2.out.lt)
  have Oa_3 := Lib.hid (howng1)
  have Ka_3 := Lib.hid (hc1)
  clear howng1 hbw3 hc1
  obtain ⟨gx, hgx⟩ : ∃ g, w3.heap.size = g := ⟨_, rfl⟩
  obtain ⟨W4, hW4⟩ : ∃ X, w3.alloc (.cells #[.int .i64 a, .slice (some ⟨g1, 0, none⟩) l.length c1] 24) = X := ⟨_, rfl⟩
  have hbW4 : Below w3.heap.size w3 W4 := hW4 ▸ (Below.refl _ _).alloc (Nat.le_refl _) _
  have hnx : Blk W4 gx 24 #[.int .i64 a, .slice (some ⟨g1, 0, none⟩) l.length c1] := by rw [← hW4]; exact blkNew hgx
  have Ha_4 := Lib.hid (Ha_3.out.below (hbW4.mono HBB_3.out))
  have Hb_4 := Lib.hid (Hb_3.out.below (hbW4.mono HBB_3.out))
  have HBB_4 : Hid (B ≤ W4.heap.size) := Lib.hid (Nat.le_trans HBB_3.out hbW4.size)
  have HG_4 := Lib.hid (HG_3.out.below hbW4)
  have HB_4 := Lib.hid (HB_3.out.trans (hbW4.mono HB_3.out.size))
  have Pa_4 := Lib.hid (Pa_3.out.below hbW4 Pa_3.out.lt)
  have Pb_4 := Lib.hid (Pb_3.out.below hbW4 Pb_3.out.lt)
  have Oa_4 := Lib.hid (own_below Oa_3.out hbW4)
  have Px_4 := Lib.hid (hnx)
  clear hbW4 hnx
  have cPb0_4 : W4.cell? ⟨gb, 0, none⟩ = some (.int .i64 b) := Pb_4.out.cell 0
  have cPb1_4 : W4.cell? ⟨gb, 1, none⟩ = some (.slice D m.length d) := Pb_4.out.cell 1
  go_wp2_with (fail)
  refine (lentPos_calls b m D d B W4 Hb_4.out.r HBB_4.out Hb_4.out.len).mono ?_
  rintro e w5 ⟨g2, c2, rfl, hc2, howng2, hbw5⟩
  clear hW4 hgx cPb0_4 cPb1_4
  have Ha_5 := Lib.hid (Ha_4.out.below (hbw5.mono HBB_4.out))
  have Hb_5 := Lib.hid (Hb_4.out.below (hbw5.mono HBB_4.out))
  have HBB_5 : Hid (B ≤ w5.heap.size) := Lib.hid (Nat.le_trans HBB_4.out hbw5.size)
  have HG_5 := Lib.hid (HG_4.out.below hbw5)
  have HB_5 := Lib.hid (HB_4.out.trans (hbw5.mono HB_4.out.size))
  have Pa_5 := Lib.hid (Pa_4.out.below hbw5 Pa_4.out.lt)
  have Pb_5 := Lib.hid (Pb_4.out.below hbw5 Pb_4.out.lt)
  have Oa_5 := Lib.hid (own_below Oa_4.out hbw5)
  have Px_5 := Lib.hid (Px_4.out.below hbw5 Px_4.out.lt)
  have Ob_5 := Lib.hid (howng2)
  have Kb_5 := Lib.hid (hc2)
  clear howng2 hbw5 hc2
  obtain ⟨gy, hgy⟩ : ∃ g, w5.heap.size = g := ⟨_, rfl⟩
  obtain ⟨W6, hW6⟩ : ∃ X, w5.alloc (.cells #[.int .i64 b, .slice (some ⟨g2, 0, none⟩) m.length c2] 24) = X := ⟨_, rfl⟩
  have hbW6 : Below w5.heap.size w5 W6 := hW6 ▸ (Below.refl _ _).alloc (Nat.le_refl _) _
  have hny : Blk W6 gy 24 #[.int .i64 b, .slice (some ⟨g2, 0, none⟩) m.length c2] := by rw [← hW6]; exact blkNew hgy
  have Ha_6 := Lib.hid (Ha_5.out.below (hbW6.mono HBB_5.out))
  have Hb_6 := Lib.hid (Hb_5.out.below (hbW6.mono HBB_5.out))
  have HBB_6 : Hid (B ≤ W6.heap.size) := Lib.hid (Nat.le_trans HBB_5.out hbW6.size)
  have HG_6 := Lib.hid (HG_5.out.below hbW6)
  have HB_6 := Lib.hid (HB_5.out.trans (hbW6.mono HB_5.out.size))
  have Pa_6 := Lib.hid (Pa_5.out.below hbW6 Pa_5.out.lt)
  have Pb_6 := Lib.hid (Pb_5.out.below hbW6 Pb_5.out.lt)
  have Oa_6 := Lib.hid (own_below Oa_5.out hbW6)
  have Px_6 := Lib.hid (Px_5.out.below hbW6 Px_5.out.lt)
  have Ob_6 := Lib.hid (own_below Ob_5.out hbW6)
  have Py_6 := Lib.hid (hny)
  clear hbW6 hny
  obtain ⟨r, hr⟩ : ∃ r, (a == b && decide (l = m)) = r := ⟨_, rfl⟩
  obtain ⟨r2, hr2⟩ : ∃ r, (b == a && decide (m = l)) = r := ⟨_, rfl⟩
  have hrr : r2 = r := by rw [← hr, ← hr2, Bool.eq_iff_iff]; simp; exact ⟨fun h => ⟨h.1.symm, h.2.symm⟩, fun h => ⟨h.1.symm, h.2.symm⟩⟩
  subst hrr
  have HR := Lib.hid hr
  have HR2 := Lib.hid hr2
  have ha2 : (a == a && decide (l = l)) = true := by simp
  have hb2 : (b == b && decide (m = m)) = true := by simp
  have HAA := Lib.hid ha2
  have HBB2 := Lib.hid hb2
  clear hr hr2 ha2 hb2
  have RA := Lib.hid (Ha_6.out.r.more HBB_6.out)
  have RB := Lib.hid (Hb_6.out.r.more HBB_6.out)
  have RX := Lib.hid (reads_pre (lent_reads Oa_6.out) (by rw [markMarkss_len]))
  have RY := Lib.hid (reads_pre (lent_reads Ob_6.out) (by rw [markMarkss_len]))
  have FX := Lib.hid (lent_reads Oa_6.out)
  have FY := Lib.hid (lent_reads Ob_6.out)
  have LA := Lib.hid Ha_6.out.len
  have LB := Lib.hid Hb_6.out.len
  have cPa0_6 : W6.cell? ⟨ga, 0, none⟩ = some (.int .i64 a) := Pa_6.out.cell 0
  have cPa1_6 : W6.cell? ⟨ga, 1, none⟩ = some (.slice A l.length c) := Pa_6.out.cell 1
  have cPb0_6 : W6.cell? ⟨gb, 0, none⟩ = some (.int .i64 b) := Pb_6.out.cell 0
  have cPb1_6 : W6.cell? ⟨gb, 1, none⟩ = some (.slice D m.length d) := Pb_6.out.cell 1
  have cPx0_6 : W6.cell? ⟨gx, 0, none⟩ = some (.int .i64 a) := Px_6.out.cell 0
  have cPx1_6 : W6.cell? ⟨gx, 1, none⟩ = some (.slice (some ⟨g1, 0, none⟩) l.length c1) := Px_6.out.cell 1
  have cPy0_6 : W6.cell? ⟨gy, 0, none⟩ = some (.int .i64 b) := Py_6.out.cell 0
  have cPy1_6 : W6.cell? ⟨gy, 1, none⟩ = some (.slice (some ⟨g2, 0, none⟩) m.length c2) := Py_6.out.cell 1
  go_wp2_with (fail)
  refine wp_region_class (InB W6) (by kernel_rfl) (by kernel_rfl) (InB.start _) ?_
  refine BigFrame.wpQuiet_want (by rfl) (fun K hK => ?_)
  refine quiet_value (.agg #[.int .i64 a, .slice (some ⟨g1, 0, none⟩) l.length c1]) (fun W hW => ?_) (hK _ ?_)
  · clear hK
    have q0 := hW.cell cPx0_6
    have q1 := hW.cell cPx1_6
    clear hW
    go_simp
  clear hK K
  simp only [Act.put, List.setIfInBounds_toArray, List.set_cons_zero, List.set_cons_succ]
  refine BigFrame.wpQuiet_want (by rfl) (fun K hK => ?_)
  refine quiet_value (.agg #[.int .i64 b, .slice (some ⟨g2, 0, none⟩) m.length c2]) (fun W hW => ?_) (hK _ ?_)
  · clear hK
    have q0 := hW.cell cPy0_6
    have q1 := hW.cell cPy1_6
    clear hW
    go_simp
  clear hK K
  simp only [Act.put, List.setIfInBounds_toArray, List.set_cons_zero, List.set_cons_succ]
  refine BigFrame.wpQuiet_want (by rfl) (fun K hK => ?_)
  refine quiet_call 11 #[.agg #[.int .i64 a, .slice (some ⟨g1, 0, none⟩) l.length c1], .agg #[.int .i64 b, .slice (some ⟨g2, 0, none⟩) m.length c2]] (.bool r2) (fun W => ?_) (fun W hW => ?_) (hK _ ?_)
  · clear hK
    go_simp
  · refine ((HR.out ▸ (bSame_calls a b l m (some ⟨g1, 0, none⟩) (some ⟨g2, 0, none⟩) c1 c2 W6.heap.size W (RX.out.below hW) (RY.out.below hW) hW.size LA.out) : Calls Tryd.prog _ _ W fun e w' => e = .returned (.bool r2) ∧ Below W.heap.size W w')).mono ?_
    rintro e w' ⟨rfl, hb⟩
    exact ⟨rfl, hW.trans hb⟩
  clear hK K
  simp only [Act.put, List.setIfInBounds_toArray, List.set_cons_zero, List.set_cons_succ]
  refine BigFrame.wpQuiet_want (by rfl) (fun K hK => ?_)
  refine quiet_value (.agg #[.int .i64 a, .slice A l.length c]) (fun W hW => ?_) (hK _ ?_)
  · clear hK
    have q0 := hW.cell cPa0_6
    have q1 := hW.cell cPa1_6
    clear hW
    go_simp
  clear hK K
  simp only [Act.put, List.setIfInBounds_toArray, List.set_cons_zero, List.set_cons_succ]
  refine BigFrame.wpQuiet_want (by rfl) (fun K hK => ?_)
  refine quiet_value (.agg #[.int .i64 b, .slice D m.length d]) (fun W hW => ?_) (hK _ ?_)
  · clear hK
    have q0 := hW.cell cPb0_6
    have q1 := hW.cell cPb1_6
    clear hW
    go_simp
  clear hK K
  simp only [Act.put, List.setIfInBounds_toArray, List.set_cons_zero, List.set_cons_succ]
  refine BigFrame.wpQuiet_want (by rfl) (fun K hK => ?_)
  refine quiet_call 12 #[.agg #[.int .i64 a, .slice A l.length c], .agg #[.int .i64 b, .slice D m.length d]] (.bool r2) (fun W => ?_) (fun W hW => ?_) (hK _ ?_)
  · clear hK
    go_simp
  · refine ((HR.out ▸ (samePos_calls a b l m A D c d W6.heap.size W (RA.out.below hW) (RB.out.below hW) hW.size LA.out) : Calls Tryd.prog _ _ W fun e w' => e = .returned (.bool r2) ∧ Below W.heap.size W w')).mono ?_
    rintro e w' ⟨rfl, hb⟩
    exact ⟨rfl, hW.trans hb⟩
  clear hK K
  simp only [Act.put, List.setIfInBounds_toArray, List.set_cons_zero, List.set_cons_succ]
  refine BigFrame.wpQuiet_want (by rfl) (fun K hK => ?_)
  refine quiet_value (.bool false) (fun W hW => ?_) (hK _ ?_)
  · clear hK
    clear hW
    go_simp
  clear hK K
  simp only [Act.put, List.setIfInBounds_toArray, List.set_cons_zero, List.set_cons_succ]
  refine BigFrame.wpQuiet_want (by rfl) (fun K hK => ?_)
  refine quiet_value (.bool false) (fun W hW => ?_) (hK _ ?_)
  · clear hK
    clear hW
    go_simp
  clear hK K
  simp only [Act.put, List.setIfInBounds_toArray, List.set_cons_zero, List.set_cons_succ]
  refine BigFrame.wpQuiet_want (by rfl) (fun K hK => ?_)
  refine quiet_value (.agg #[.int .i64 b, .slice (some ⟨g2, 0, none⟩) m.length c2]) (fun W hW => ?_) (hK _ ?_)
  · clear hK
    have q0 := hW.cell cPy0_6
    have q1 := hW.cell cPy1_6
    clear hW
    go_simp
  clear hK K
  simp only [Act.put, List.setIfInBounds_toArray, List.set_cons_zero, List.set_cons_succ]
  refine BigFrame.wpQuiet_want (by rfl) (fun K hK => ?_)
  refine quiet_value (.agg #[.int .i64 a, .slice (some ⟨g1, 0, none⟩) l.length c1]) (fun W hW => ?_) (hK _ ?_)
  · clear hK
    have q0 := hW.cell cPx0_6
    have q1 := hW.cell cPx1_6
    clear hW
    go_simp
  clear hK K
  simp only [Act.put, List.setIfInBounds_toArray, List.set_cons_zero, List.set_cons_succ]
  refine BigFrame.wpQuiet_want (by rfl) (fun K hK => ?_)
  refine quiet_call 11 #[.agg #[.int .i64 b, .slice (some ⟨g2, 0, none⟩) m.length c2], .agg #[.int .i64 a, .slice (some ⟨g1, 0, none⟩) l.length c1]] (.bool r2) (fun W => ?_) (fun W hW => ?_) (hK _ ?_)
  · clear hK
    go_simp
  · refine ((HR2.out ▸ (bSame_calls b a m l (some ⟨g2, 0, none⟩) (some ⟨g1, 0, none⟩) c2 c1 W6.heap.size W (RY.out.below hW) (RX.out.below hW) hW.size LB.out) : Calls Tryd.prog _ _ W fun e w' => e = .returned (.bool r2) ∧ Below W.heap.size W w')).mono ?_
    rintro e w' ⟨rfl, hb⟩
    exact ⟨rfl, hW.trans hb⟩
  clear hK K
  simp only [Act.put, List.setIfInBounds_toArray, List.set_cons_zero, List.set_cons_succ]
  refine BigFrame.wpQuiet_want (by rfl) (fun K hK => ?_)
  refine quiet_value (.agg #[.int .i64 a, .slice A l.length c]) (fun W hW => ?_) (hK _ ?_)
  · clear hK
    have q0 := hW.cell cPa0_6
    have q1 := hW.cell cPa1_6
    clear hW
    go_simp
  clear hK K
  simp only [Act.put, List.setIfInBounds_toArray, List.set_cons_zero, List.set_cons_succ]
  refine BigFrame.wpQuiet_want (by rfl) (fun K hK => ?_)
  refine quiet_value (.agg #[.int .i64 b, .slice D m.length d]) (fun W hW => ?_) (hK _ ?_)
  · clear hK
    have q0 := hW.cell cPb0_6
    have q1 := hW.cell cPb1_6
    clear hW
    go_simp
  clear hK K
  simp only [Act.put, List.setIfInBounds_toArray, List.set_cons_zero, List.set_cons_succ]
  refine BigFrame.wpQuiet_want (by rfl) (fun K hK => ?_)
  refine quiet_call 12 #[.agg #[.int .i64 a, .slice A l.length c], .agg #[.int .i64 b, .slice D m.length d]] (.bool r2) (fun W => ?_) (fun W hW => ?_) (hK _ ?_)
  · clear hK
    go_simp
  · refine ((HR.out ▸ (samePos_calls a b l m A D c d W6.heap.size W (RA.out.below hW) (RB.out.below hW) hW.size LA.out) : Calls Tryd.prog _ _ W fun e w' => e = .returned (.bool r2) ∧ Below W.heap.size W w')).mono ?_
    rintro e w' ⟨rfl, hb⟩
    exact ⟨rfl, hW.trans hb⟩
  clear hK K
  simp only [Act.put, List.setIfInBounds_toArray, List.set_cons_zero, List.set_cons_succ]
  refine BigFrame.wpQuiet_want (by rfl) (fun K hK => ?_)
  refine quiet_value (.bool false) (fun W hW => ?_) (hK _ ?_)
  · clear hK
    clear hW
    go_simp
  clear hK K
  simp only [Act.put, List.setIfInBounds_toArray, List.set_cons_zero, List.set_cons_succ]
  refine BigFrame.wpQuiet_want (by rfl) (fun K hK => ?_)
  refine quiet_value (.bool false) (fun W hW => ?_) (hK _ ?_)
  · clear hK
    clear hW
    go_simp
  clear hK K
  simp only [Act.put, List.setIfInBounds_toArray, List.set_cons_zero, List.set_cons_succ]
  refine wpQuiet_nil ?_
  intro WR hiWR
  clear hW6 hgy cPa0_6 cPa1_6 cPb0_6 cPb1_6 cPx0_6 cPx1_6 cPy0_6 cPy1_6
  clear RA RB RX RY FX FY LA LB
  have Ha_7 := Lib.hid (Ha_6.out.below (hiWR.mono HBB_6.out))
  have Hb_7 := Lib.hid (Hb_6.out.below (hiWR.mono HBB_6.out))
  have HBB_7 : Hid (B ≤ WR.heap.size) := Lib.hid (Nat.le_trans HBB_6.out hiWR.size)
  have HG_7 := Lib.hid (HG_6.out.below hiWR)
  have HB_7 := Lib.hid (HB_6.out.trans (hiWR.mono HB_6.out.size))
  have Pa_7 := Lib.hid (Pa_6.out.below hiWR Pa_6.out.lt)
  have Pb_7 := Lib.hid (Pb_6.out.below hiWR Pb_6.out.lt)
  have Oa_7 := Lib.hid (own_below Oa_6.out hiWR)
  have Px_7 := Lib.hid (Px_6.out.below hiWR Px_6.out.lt)
  have Ob_7 := Lib.hid (own_below Ob_6.out hiWR)
  have Py_7 := Lib.hid (Py_6.out.below hiWR Py_6.out.lt)
  clear hiWR
  have RA := Lib.hid (Ha_7.out.r.more HBB_7.out)
  have RB := Lib.hid (Hb_7.out.r.more HBB_7.out)
  have RX := Lib.hid (reads_pre (lent_reads Oa_7.out) (by rw [markMarkss_len]))
  have RY := Lib.hid (reads_pre (lent_reads Ob_7.out) (by rw [markMarkss_len]))
  have FX := Lib.hid (lent_reads Oa_7.out)
  have FY := Lib.hid (lent_reads Ob_7.out)
  have LA := Lib.hid Ha_7.out.len
  have LB := Lib.hid Hb_7.out.len
  have cPa0_7 : WR.cell? ⟨ga, 0, none⟩ = some (.int .i64 a) := Pa_7.out.cell 0
  have cPa1_7 : WR.cell? ⟨ga, 1, none⟩ = some (.slice A l.length c) := Pa_7.out.cell 1
  have cPb0_7 : WR.cell? ⟨gb, 0, none⟩ = some (.int .i64 b) := Pb_7.out.cell 0
  have cPb1_7 : WR.cell? ⟨gb, 1, none⟩ = some (.slice D m.length d) := Pb_7.out.cell 1
  have cPx0_7 : WR.cell? ⟨gx, 0, none⟩ = some (.int .i64 a) := Px_7.out.cell 0
  have cPx1_7 : WR.cell? ⟨gx, 1, none⟩ = some (.slice (some ⟨g1, 0, none⟩) l.length c1) := Px_7.out.cell 1
  have cPy0_7 : WR.cell? ⟨gy, 0, none⟩ = some (.int .i64 b) := Py_7.out.cell 0
  have cPy1_7 : WR.cell? ⟨gy, 1, none⟩ = some (.slice (some ⟨g2, 0, none⟩) m.length c2) := Py_7.out.cell 1
  go_wp2_with (fail)
  refine (bSame_calls a a l l (some ⟨g1, 0, none⟩) A c1 c WR.heap.size WR RX.out RA.out (Nat.le_refl _) LA.out).mono ?_
  rintro e w8 ⟨rfl, hbw8⟩
  rw [show (a == a && decide (l = l)) = true by simp]
  clear RA RB RX RY FX FY LA LB
  clear cPa0_7 cPa1_7 cPb0_7 cPb1_7 cPx0_7 cPx1_7 cPy0_7 cPy1_7
  have Ha_8 := Lib.hid (Ha_7.out.below (hbw8.mono HBB_7.out))
  have Hb_8 := Lib.hid (Hb_7.out.below (hbw8.mono HBB_7.out))
  have HBB_8 : Hid (B ≤ w8.heap.size) := Lib.hid (Nat.le_trans HBB_7.out hbw8.size)
  have HG_8 := Lib.hid (HG_7.out.below hbw8)
  have HB_8 := Lib.hid (HB_7.out.trans (hbw8.mono HB_7.out.size))
  have Pa_8 := Lib.hid (Pa_7.out.below hbw8 Pa_7.out.lt)
  have Pb_8 := Lib.hid (Pb_7.out.below hbw8 Pb_7.out.lt)
  have Oa_8 := Lib.hid (own_below Oa_7.out hbw8)
  have Px_8 := Lib.hid (Px_7.out.below hbw8 Px_7.out.lt)
  have Ob_8 := Lib.hid (own_below Ob_7.out hbw8)
  have Py_8 := Lib.hid (Py_7.out.below hbw8 Py_7.out.lt)
  clear hbw8
  have RA := Lib.hid (Ha_8.out.r.more HBB_8.out)
  have RB := Lib.hid (Hb_8.out.r.more HBB_8.out)
  have RX := Lib.hid (reads_pre (lent_reads Oa_8.out) (by rw [markMarkss_len]))
  have RY := Lib.hid (reads_pre (lent_reads Ob_8.out) (by rw [markMarkss_len]))
  have FX := Lib.hid (lent_reads Oa_8.out)
  have FY := Lib.hid (lent_reads Ob_8.out)
  have LA := Lib.hid Ha_8.out.len
  have LB := Lib.hid Hb_8.out.len
  have cPa0_8 : w8.cell? ⟨ga, 0, none⟩ = some (.int .i64 a) := Pa_8.out.cell 0
  have cPa1_8 : w8.cell? ⟨ga, 1, none⟩ = some (.slice A l.length c) := Pa_8.out.cell 1
  have cPb0_8 : w8.cell? ⟨gb, 0, none⟩ = some (.int .i64 b) := Pb_8.out.cell 0
  have cPb1_8 : w8.cell? ⟨gb, 1, none⟩ = some (.slice D m.length d) := Pb_8.out.cell 1
  have cPx0_8 : w8.cell? ⟨gx, 0, none⟩ = some (.int .i64 a) := Px_8.out.cell 0
  have cPx1_8 : w8.cell? ⟨gx, 1, none⟩ = some (.slice (some ⟨g1, 0, none⟩) l.length c1) := Px_8.out.cell 1
  have cPy0_8 : w8.cell? ⟨gy, 0, none⟩ = some (.int .i64 b) := Py_8.out.cell 0
  have cPy1_8 : w8.cell? ⟨gy, 1, none⟩ = some (.slice (some ⟨g2, 0, none⟩) m.length c2) := Py_8.out.cell 1
  go_wp2_with (fail)
  refine (bSame_calls b b m m D (some ⟨g2, 0, none⟩) d c2 w8.heap.size w8 RB.out RY.out (Nat.le_refl _) LB.out).mono ?_
  rintro e w9 ⟨rfl, hbw9⟩
  rw [show (b == b && decide (m = m)) = true by simp]
  clear RA RB RX RY FX FY LA LB
  clear cPa0_8 cPa1_8 cPb0_8 cPb1_8 cPx0_8 cPx1_8 cPy0_8 cPy1_8
  have Ha_9 := Lib.hid (Ha_8.out.below (hbw9.mono HBB_8.out))
  have Hb_9 := Lib.hid (Hb_8.out.below (hbw9.mono HBB_8.out))
  have HBB_9 : Hid (B ≤ w9.heap.size) := Lib.hid (Nat.le_trans HBB_8.out hbw9.size)
  have HG_9 := Lib.hid (HG_8.out.below hbw9)
  have HB_9 := Lib.hid (HB_8.out.trans (hbw9.mono HB_8.out.size))
  have Pa_9 := Lib.hid (Pa_8.out.below hbw9 Pa_8.out.lt)
  have Pb_9 := Lib.hid (Pb_8.out.below hbw9 Pb_8.out.lt)
  have Oa_9 := Lib.hid (own_below Oa_8.out hbw9)
  have Px_9 := Lib.hid (Px_8.out.below hbw9 Px_8.out.lt)
  have Ob_9 := Lib.hid (own_below Ob_8.out hbw9)
  have Py_9 := Lib.hid (Py_8.out.below hbw9 Py_8.out.lt)
  clear hbw9
  have RA := Lib.hid (Ha_9.out.r.more HBB_9.out)
  have RB := Lib.hid (Hb_9.out.r.more HBB_9.out)
  have RX := Lib.hid (reads_pre (lent_reads Oa_9.out) (by rw [markMarkss_len]))
  have RY := Lib.hid (reads_pre (lent_reads Ob_9.out) (by rw [markMarkss_len]))
  have FX := Lib.hid (lent_reads Oa_9.out)
  have FY := Lib.hid (lent_reads Ob_9.out)
  have LA := Lib.hid Ha_9.out.len
  have LB := Lib.hid Hb_9.out.len
  have cPa0_9 : w9.cell? ⟨ga, 0, none⟩ = some (.int .i64 a) := Pa_9.out.cell 0
  have cPa1_9 : w9.cell? ⟨ga, 1, none⟩ = some (.slice A l.length c) := Pa_9.out.cell 1
  have cPb0_9 : w9.cell? ⟨gb, 0, none⟩ = some (.int .i64 b) := Pb_9.out.cell 0
  have cPb1_9 : w9.cell? ⟨gb, 1, none⟩ = some (.slice D m.length d) := Pb_9.out.cell 1
  have cPx0_9 : w9.cell? ⟨gx, 0, none⟩ = some (.int .i64 a) := Px_9.out.cell 0
  have cPx1_9 : w9.cell? ⟨gx, 1, none⟩ = some (.slice (some ⟨g1, 0, none⟩) l.length c1) := Px_9.out.cell 1
  have cPy0_9 : w9.cell? ⟨gy, 0, none⟩ = some (.int .i64 b) := Py_9.out.cell 0
  have cPy1_9 : w9.cell? ⟨gy, 1, none⟩ = some (.slice (some ⟨g2, 0, none⟩) m.length c2) := Py_9.out.cell 1
  go_wp2_with (fail)
  refine (keptPos_calls a l g1 A c1 c w9.heap.size w9 FX.out Ka_3.out RA.out (Nat.le_refl _) (by have := LA.out; omega)).mono ?_
  rintro e w10 ⟨rfl, hbw10⟩
  clear RA RB RX RY FX FY LA LB
  clear cPa0_9 cPa1_9 cPb0_9 cPb1_9 cPx0_9 cPx1_9 cPy0_9 cPy1_9
  have Ha_10 := Lib.hid (Ha_9.out.below (hbw10.mono HBB_9.out))
  have Hb_10 := Lib.hid (Hb_9.out.below (hbw10.mono HBB_9.out))
  have HBB_10 : Hid (B ≤ w10.heap.size) := Lib.hid (Nat.le_trans HBB_9.out hbw10.size)
  have HG_10 := Lib.hid (HG_9.out.below hbw10)
  have HB_10 := Lib.hid (HB_9.out.trans (hbw10.mono HB_9.out.size))
  have Pa_10 := Lib.hid (Pa_9.out.below hbw10 Pa_9.out.lt)
  have Pb_10 := Lib.hid (Pb_9.out.below hbw10 Pb_9.out.lt)
  have Oa_10 := Lib.hid (own_below Oa_9.out hbw10)
  have Px_10 := Lib.hid (Px_9.out.below hbw10 Px_9.out.lt)
  have Ob_10 := Lib.hid (own_below Ob_9.out hbw10)
  have Py_10 := Lib.hid (Py_9.out.below hbw10 Py_9.out.lt)
  clear hbw10
  have RA := Lib.hid (Ha_10.out.r.more HBB_10.out)
  have RB := Lib.hid (Hb_10.out.r.more HBB_10.out)
  have RX := Lib.hid (reads_pre (lent_reads Oa_10.out) (by rw [markMarkss_len]))
  have RY := Lib.hid (reads_pre (lent_reads Ob_10.out) (by rw [markMarkss_len]))
  have FX := Lib.hid (lent_reads Oa_10.out)
  have FY := Lib.hid (lent_reads Ob_10.out)
  have LA := Lib.hid Ha_10.out.len
  have LB := Lib.hid Hb_10.out.len
  have cPa0_10 : w10.cell? ⟨ga, 0, none⟩ = some (.int .i64 a) := Pa_10.out.cell 0
  have cPa1_10 : w10.cell? ⟨ga, 1, none⟩ = some (.slice A l.length c) := Pa_10.out.cell 1
  have cPb0_10 : w10.cell? ⟨gb, 0, none⟩ = some (.int .i64 b) := Pb_10.out.cell 0
  have cPb1_10 : w10.cell? ⟨gb, 1, none⟩ = some (.slice D m.length d) := Pb_10.out.cell 1
  have cPx0_10 : w10.cell? ⟨gx, 0, none⟩ = some (.int .i64 a) := Px_10.out.cell 0
  have cPx1_10 : w10.cell? ⟨gx, 1, none⟩ = some (.slice (some ⟨g1, 0, none⟩) l.length c1) := Px_10.out.cell 1
  have cPy0_10 : w10.cell? ⟨gy, 0, none⟩ = some (.int .i64 b) := Py_10.out.cell 0
  have cPy1_10 : w10.cell? ⟨gy, 1, none⟩ = some (.slice (some ⟨g2, 0, none⟩) m.length c2) := Py_10.out.cell 1
  go_wp2_with (fail)
  refine (keptPos_calls b m g2 D c2 d w10.heap.size w10 FY.out Kb_5.out RB.out (Nat.le_refl _) (by have := LB.out; omega)).mono ?_
  rintro e w11 ⟨rfl, hbw11⟩
  clear RA RB RX RY FX FY LA LB
  clear cPa0_10 cPa1_10 cPb0_10 cPb1_10 cPx0_10 cPx1_10 cPy0_10 cPy1_10
  have Ha_11 := Lib.hid (Ha_10.out.below (hbw11.mono HBB_10.out))
  have Hb_11 := Lib.hid (Hb_10.out.below (hbw11.mono HBB_10.out))
  have HBB_11 : Hid (B ≤ w11.heap.size) := Lib.hid (Nat.le_trans HBB_10.out hbw11.size)
  have HG_11 := Lib.hid (HG_10.out.below hbw11)
  have HB_11 := Lib.hid (HB_10.out.trans (hbw11.mono HB_10.out.size))
  have Pa_11 := Lib.hid (Pa_10.out.below hbw11 Pa_10.out.lt)
  have Pb_11 := Lib.hid (Pb_10.out.below hbw11 Pb_10.out.lt)
  have Oa_11 := Lib.hid (own_below Oa_10.out hbw11)
  have Px_11 := Lib.hid (Px_10.out.below hbw11 Px_10.out.lt)
  have Ob_11 := Lib.hid (own_below Ob_10.out hbw11)
  have Py_11 := Lib.hid (Py_10.out.below hbw11 Py_10.out.lt)
  clear hbw11
  go_wp2_with (fail)
  refine (works_calls w11 HG_11.out).mono ?_
  rintro e w12 ⟨rfl, hbw12⟩
  have Ha_12 := Lib.hid (Ha_11.out.below (hbw12.mono HBB_11.out))
  have Hb_12 := Lib.hid (Hb_11.out.below (hbw12.mono HBB_11.out))
  have HBB_12 : Hid (B ≤ w12.heap.size) := Lib.hid (Nat.le_trans HBB_11.out hbw12.size)
  have HG_12 := Lib.hid (HG_11.out.below hbw12)
  have HB_12 := Lib.hid (HB_11.out.trans (hbw12.mono HB_11.out.size))
  have Pa_12 := Lib.hid (Pa_11.out.below hbw12 Pa_11.out.lt)
  have Pb_12 := Lib.hid (Pb_11.out.below hbw12 Pb_11.out.lt)
  have Oa_12 := Lib.hid (own_below Oa_11.out hbw12)
  have Px_12 := Lib.hid (Px_11.out.below hbw12 Px_11.out.lt)
  have Ob_12 := Lib.hid (own_below Ob_11.out hbw12)
  have Py_12 := Lib.hid (Py_11.out.below hbw12 Py_11.out.lt)
  go_wp2_with (fail)
  go_ret
  exact ⟨rfl, HB_12.out⟩
theorem chk_fits (a : Int) (l : List Mk) : fitsE a l (chk a l) := by
  by_cases h : (posCheck a l).1 = 0
  · refine .inr ⟨h, ?_, ?_, ?_⟩
    · unfold chk; simp only; rw [if_pos h]
    · exact (posCheck_range a l).1
    · exact (posCheck_range a l).2
  · exact .inl ⟨h, rfl⟩
set_option maxRecDepth 100000 in
set_option maxHeartbeats 4000000 in
theorem lawChecks_calls (a : Int) (l : List Mk) (A : Option Addr) (c B : Nat) (nm : Int) (w : World) (h1 : PosOK w B a l A) (hB : B ≤ w.heap.size) (hG : HG w) :
    Calls Tryd.prog 4 #[.agg #[.int .i64 a, .slice A l.length c], .int .i64 nm] w fun e w' => e = .returned (.bool true) ∧ Below w.heap.size w w' := by
  have hlen := h1.len
  have Ha_0 := Lib.hid (h1)
  have HBB_0 : Hid (B ≤ w.heap.size) := Lib.hid (hB)
  have HG_0 := Lib.hid (hG)
  have HB_0 := Lib.hid (Below.refl w.heap.size w)
  clear h1 hB hG
  obtain ⟨ga, hga⟩ : ∃ g, w.heap.size = g := ⟨_, rfl⟩
  obtain ⟨W1, hW1⟩ : ∃ X, w.alloc (.cells #[.int .i64 a, .slice A l.length c] 24) = X := ⟨_, rfl⟩
  have hbW1 : Below w.heap.size w W1 := hW1 ▸ (Below.refl _ _).alloc (Nat.le_refl _) _
  have hna : Blk W1 ga 24 #[.int .i64 a, .slice A l.length c] := by rw [← hW1]; exact blkNew hga
  have Ha_1 := Lib.hid (Ha_0.out.below (hbW1.mono HBB_0.out))
  have HBB_1 : Hid (B ≤ W1.heap.size) := Lib.hid (Nat.le_trans HBB_0.out hbW1.size)
  have HG_1 := Lib.hid (HG_0.out.below hbW1)
  have HB_1 := Lib.hid (HB_0.out.trans (hbW1.mono HB_0.out.size))
  have Pa_1 := Lib.hid (hna)
  clear hbW1 hna
  go_enter Tryd.func4, Tryd.ntmps4
  have cPa0_1 : W1.cell? ⟨ga, 0, none⟩ = some (.int .i64 a) := Pa_1.out.cell 0
  have cPa1_1 : W1.cell? ⟨ga, 1, none⟩ = some (.slice A l.length c) := Pa_1.out.cell 1
  go_wp2_with (fail)
  refine (rcheck_calls a l A c B W1 Ha_1.out HBB_1.out).mono ?_
  rintro e w2 ⟨rfl, hbw2⟩
  obtain ⟨no, hno⟩ : ∃ x, (posCheck a l).1 = x := ⟨_, rfl⟩
  obtain ⟨pl, hpl⟩ : ∃ x, (posCheck a l).2 = x := ⟨_, rfl⟩
  have HNO := Lib.hid hno
  rw [hno, hpl]
  clear hno hpl
  clear hW1 hga cPa0_1 cPa1_1
  have Ha_2 := Lib.hid (Ha_1.out.below (hbw2.mono HBB_1.out))
  have HBB_2 : Hid (B ≤ w2.heap.size) := Lib.hid (Nat.le_trans HBB_1.out hbw2.size)
  have HG_2 := Lib.hid (HG_1.out.below hbw2)
  have HB_2 := Lib.hid (HB_1.out.trans (hbw2.mono HB_1.out.size))
  have Pa_2 := Lib.hid (Pa_1.out.below hbw2 Pa_1.out.lt)
  clear hbw2
  have cPa0_2 : w2.cell? ⟨ga, 0, none⟩ = some (.int .i64 a) := Pa_2.out.cell 0
  have cPa1_2 : w2.cell? ⟨ga, 1, none⟩ = some (.slice A l.length c) := Pa_2.out.cell 1
  go_wp2_with (fail)
  refine (lentPos_calls a l A c B w2 Ha_2.out.r HBB_2.out Ha_2.out.len).mono ?_
  rintro e w3 ⟨g1, c1, rfl, hc1, howng1, hbw3⟩
  clear cPa0_2 cPa1_2
  have Ha_3 := Lib.hid (Ha_2.out.below (hbw3.mono HBB_2.out))
  have HBB_3 : Hid (B ≤ w3.heap.size) := Lib.hid (Nat.le_trans HBB_2.out hbw3.size)
  have HG_3 := Lib.hid (HG_2.out.below hbw3)
  have HB_3 := Lib.hid (HB_2.out.trans (hbw3.mono HB_2.out.size))
  have Pa_3 := Lib.hid (Pa_2.out.below hbw3 Pa_2.out.lt)
  have Oa_3 := Lib.hid (howng1)
  have Ka_3 := Lib.hid (hc1)
  clear howng1 hbw3 hc1
  obtain ⟨gx, hgx⟩ : ∃ g, w3.heap.size = g := ⟨_, rfl⟩
  obtain ⟨W4, hW4⟩ : ∃ X, w3.alloc (.cells #[.int .i64 a, .slice (some ⟨g1, 0, none⟩) l.length c1] 24) = X := ⟨_, rfl⟩
  have hbW4 : Below w3.heap.size w3 W4 := hW4 ▸ (Below.refl _ _).alloc (Nat.le_refl _) _
  have hnx : Blk W4 gx 24 #[.int .i64 a, .slice (some ⟨g1, 0, none⟩) l.length c1] := by rw [← hW4]; exact blkNew hgx
  have Ha_4 := Lib.hid (Ha_3.out.below (hbW4.mono HBB_3.out))
  have HBB_4 : Hid (B ≤ W4.heap.size) := Lib.hid (Nat.le_trans HBB_3.out hbW4.size)
  have HG_4 := Lib.hid (HG_3.out.below hbW4)
  have HB_4 := Lib.hid (HB_3.out.trans (hbW4.mono HB_3.out.size))
  have Pa_4 := Lib.hid (Pa_3.out.below hbW4 Pa_3.out.lt)
  have Oa_4 := Lib.hid (own_below Oa_3.out hbW4)
  have Px_4 := Lib.hid (hnx)
  clear hbW4 hnx
  have cPa0_4 : W4.cell? ⟨ga, 0, none⟩ = some (.int .i64 a) := Pa_4.out.cell 0
  have cPa1_4 : W4.cell? ⟨ga, 1, none⟩ = some (.slice A l.length c) := Pa_4.out.cell 1
  have cPx0_4 : W4.cell? ⟨gx, 0, none⟩ = some (.int .i64 a) := Px_4.out.cell 0
  have cPx1_4 : W4.cell? ⟨gx, 1, none⟩ = some (.slice (some ⟨g1, 0, none⟩) l.length c1) := Px_4.out.cell 1
  have HX : Hid (PosOK W4 W4.heap.size a l (some ⟨g1, 0, none⟩)) := ⟨reads_pre (lent_reads Oa_4.out) (by rw [markMarkss_len]), Ha_4.out.a1, Ha_4.out.q1, Ha_4.out.len⟩
  go_wp2_with (fail)
  refine (check_calls a l (some ⟨g1, 0, none⟩) c1 W4.heap.size W4 HX.out (Nat.le_refl _) HG_4.out).mono ?_
  rintro e w5 ⟨rfl, hbw5⟩
  obtain ⟨ev, hev⟩ : ∃ v, outV (chk a l) = v := ⟨_, rfl⟩
  have HEV := Lib.hid hev
  rw [hev]
  clear hev HX
  clear hW4 hgx cPa0_4 cPa1_4 cPx0_4 cPx1_4
  have Ha_5 := Lib.hid (Ha_4.out.below (hbw5.mono HBB_4.out))
  have HBB_5 : Hid (B ≤ w5.heap.size) := Lib.hid (Nat.le_trans HBB_4.out hbw5.size)
  have HG_5 := Lib.hid (HG_4.out.below hbw5)
  have HB_5 := Lib.hid (HB_4.out.trans (hbw5.mono HB_4.out.size))
  have Pa_5 := Lib.hid (Pa_4.out.below hbw5 Pa_4.out.lt)
  have Oa_5 := Lib.hid (own_below Oa_4.out hbw5)
  have Px_5 := Lib.hid (Px_4.out.below hbw5 Px_4.out.lt)
  clear hbw5
  have cPa0_5 : w5.cell? ⟨ga, 0, none⟩ = some (.int .i64 a) := Pa_5.out.cell 0
  have cPa1_5 : w5.cell? ⟨ga, 1, none⟩ = some (.slice A l.length c) := Pa_5.out.cell 1
  have cPx0_5 : w5.cell? ⟨gx, 0, none⟩ = some (.int .i64 a) := Px_5.out.cell 0
  have cPx1_5 : w5.cell? ⟨gx, 1, none⟩ = some (.slice (some ⟨g1, 0, none⟩) l.length c1) := Px_5.out.cell 1
  go_wp2_with (fail)
  rw [← HEV.out]
  refine (told_calls (chk a l) no a l A c B w5 Ha_5.out HBB_5.out HG_5.out (chk_fits a l)).mono ?_
  rintro e w6 ⟨rfl, hbw6⟩
  rw [decide_eq_true (show (chk a l).1 = no from HNO.out)]
  clear cPa0_5 cPa1_5 cPx0_5 cPx1_5
  have Ha_6 := Lib.hid (Ha_5.out.below (hbw6.mono HBB_5.out))
  have HBB_6 : Hid (B ≤ w6.heap.size) := Lib.hid (Nat.le_trans HBB_5.out hbw6.size)
  have HG_6 := Lib.hid (HG_5.out.below hbw6)
  have HB_6 := Lib.hid (HB_5.out.trans (hbw6.mono HB_5.out.size))
  have Pa_6 := Lib.hid (Pa_5.out.below hbw6 Pa_5.out.lt)
  have Oa_6 := Lib.hid (own_below Oa_5.out hbw6)
  have Px_6 := Lib.hid (Px_5.out.below hbw6 Px_5.out.lt)
  clear hbw6
  go_wp2_with (fail)
  refine (works_calls w6 HG_6.out).mono ?_
  rintro e w7 ⟨rfl, hbw7⟩
  have Ha_7 := Lib.hid (Ha_6.out.below (hbw7.mono HBB_6.out))
  have HBB_7 : Hid (B ≤ w7.heap.size) := Lib.hid (Nat.le_trans HBB_6.out hbw7.size)
  have HG_7 := Lib.hid (HG_6.out.below hbw7)
  have HB_7 := Lib.hid (HB_6.out.trans (hbw7.mono HB_6.out.size))
  have Pa_7 := Lib.hid (Pa_6.out.below hbw7 Pa_6.out.lt)
  have Oa_7 := Lib.hid (own_below Oa_6.out hbw7)
  have Px_7 := Lib.hid (Px_6.out.below hbw7 Px_6.out.lt)
  clear hbw7
  have cPa0_7 : w7.cell? ⟨ga, 0, none⟩ = some (.int .i64 a) := Pa_7.out.cell 0
  have cPa1_7 : w7.cell? ⟨ga, 1, none⟩ = some (.slice A l.length c) := Pa_7.out.cell 1
  have cPx0_7 : w7.cell? ⟨gx, 0, none⟩ = some (.int .i64 a) := Px_7.out.cell 0
  have cPx1_7 : w7.cell? ⟨gx, 1, none⟩ = some (.slice (some ⟨g1, 0, none⟩) l.length c1) := Px_7.out.cell 1
  have HX : Hid (PosOK w7 w7.heap.size a l (some ⟨g1, 0, none⟩)) := ⟨reads_pre (lent_reads Oa_7.out) (by rw [markMarkss_len]), Ha_7.out.a1, Ha_7.out.q1, Ha_7.out.len⟩
  obtain ⟨tot, htot⟩ : ∃ x, totalS a l = x := ⟨_, rfl⟩
  have TOT := Lib.hid htot
  clear htot
  obtain ⟨mkd, hmkd⟩ : ∃ x, markedS a l nm = x := ⟨_, rfl⟩
  have MKD := Lib.hid hmkd
  clear hmkd
  obtain ⟨cov, hcov⟩ : ∃ x, coverS a l nm = x := ⟨_, rfl⟩
  have COV := Lib.hid hcov
  clear hcov
  go_wp2_with (fail)
  refine wp_region_class (InB w7) (by kernel_rfl) (by kernel_rfl) (InB.start _) ?_
  refine BigFrame.wpQuiet_want (by rfl) (fun K hK => ?_)
  refine quiet_value (.agg #[.int .i64 a, .slice (some ⟨g1, 0, none⟩) l.length c1]) (fun W hW => ?_) (hK _ ?_)
  · clear hK
    have q0 := hW.cell cPx0_7
    have q1 := hW.cell cPx1_7
    clear hW
    go_simp
  clear hK K
  simp only [Act.put, List.setIfInBounds_toArray, List.set_cons_zero, List.set_cons_succ]
  refine BigFrame.wpQuiet_want (by rfl) (fun K hK => ?_)
  refine quiet_call 18 #[.agg #[.int .i64 a, .slice (some ⟨g1, 0, none⟩) l.length c1]] (.int .i64 tot) (fun W => ?_) (fun W hW => ?_) (hK _ ?_)
  · clear hK
    go_simp
  · refine ((TOT.out ▸ (totalX_calls a l (some ⟨g1, 0, none⟩) c1 w7.heap.size W (HX.out.below hW) hW.size) : Calls Tryd.prog _ _ W fun e w' => e = .returned (.int .i64 tot) ∧ Below W.heap.size W w')).mono ?_
    rintro e w' ⟨rfl, hb⟩
    exact ⟨rfl, hW.trans hb⟩
  clear hK K
  simp only [Act.put, List.setIfInBounds_toArray, List.set_cons_zero, List.set_cons_succ]
  refine BigFrame.wpQuiet_want (by rfl) (fun K hK => ?_)
  refine quiet_value (.agg #[.int .i64 a, .slice A l.length c]) (fun W hW => ?_) (hK _ ?_)
  · clear hK
    have q0 := hW.cell cPa0_7
    have q1 := hW.cell cPa1_7
    clear hW
    go_simp
  clear hK K
  simp only [Act.put, List.setIfInBounds_toArray, List.set_cons_zero, List.set_cons_succ]
  refine BigFrame.wpQuiet_want (by rfl) (fun K hK => ?_)
  refine quiet_call 19 #[.agg #[.int .i64 a, .slice A l.length c]] (.int .i64 tot) (fun W => ?_) (fun W hW => ?_) (hK _ ?_)
  · clear hK
    go_simp
  · refine ((TOT.out ▸ (rtotal_calls a l A c B W (Ha_7.out.below (hW.mono HBB_7.out)) (Nat.le_trans HBB_7.out hW.size)) : Calls Tryd.prog _ _ W fun e w' => e = .returned (.int .i64 tot) ∧ Below W.heap.size W w')).mono ?_
    rintro e w' ⟨rfl, hb⟩
    exact ⟨rfl, hW.trans hb⟩
  clear hK K
  simp only [Act.put, List.setIfInBounds_toArray, List.set_cons_zero, List.set_cons_succ]
  refine BigFrame.wpQuiet_want (by rfl) (fun K hK => ?_)
  refine quiet_value (.bool false) (fun W hW => ?_) (hK _ ?_)
  · clear hK
    clear hW
    go_simp
  clear hK K
  simp only [Act.put, List.setIfInBounds_toArray, List.set_cons_zero, List.set_cons_succ]
  refine BigFrame.wpQuiet_want (by rfl) (fun K hK => ?_)
  refine quiet_value (.bool false) (fun W hW => ?_) (hK _ ?_)
  · clear hK
    clear hW
    go_simp
  clear hK K
  simp only [Act.put, List.setIfInBounds_toArray, List.set_cons_zero, List.set_cons_succ]
  refine BigFrame.wpQuiet_want (by rfl) (fun K hK => ?_)
  refine quiet_value (.agg #[.int .i64 a, .slice (some ⟨g1, 0, none⟩) l.length c1]) (fun W hW => ?_) (hK _ ?_)
  · clear hK
    have q0 := hW.cell cPx0_7
    have q1 := hW.cell cPx1_7
    clear hW
    go_simp
  clear hK K
  simp only [Act.put, List.setIfInBounds_toArray, List.set_cons_zero, List.set_cons_succ]
  refine BigFrame.wpQuiet_want (by rfl) (fun K hK => ?_)
  refine quiet_value (.int .i64 nm) (fun W hW => ?_) (hK _ ?_)
  · clear hK
    clear hW
    go_simp
  clear hK K
  simp only [Act.put, List.setIfInBounds_toArray, List.set_cons_zero, List.set_cons_succ]
  refine BigFrame.wpQuiet_want (by rfl) (fun K hK => ?_)
  refine quiet_call 20 #[.agg #[.int .i64 a, .slice (some ⟨g1, 0, none⟩) l.length c1], .int .i64 nm] (.int .i64 mkd) (fun W => ?_) (fun W hW => ?_) (hK _ ?_)
  · clear hK
    go_simp
  · refine ((MKD.out ▸ (marked_calls a l (some ⟨g1, 0, none⟩) c1 w7.heap.size nm W (HX.out.below hW) hW.size) : Calls Tryd.prog _ _ W fun e w' => e = .returned (.int .i64 mkd) ∧ Below W.heap.size W w')).mono ?_
    rintro e w' ⟨rfl, hb⟩
    exact ⟨rfl, hW.trans hb⟩
  clear hK K
  simp only [Act.put, List.setIfInBounds_toArray, List.set_cons_zero, List.set_cons_succ]
  refine BigFrame.wpQuiet_want (by rfl) (fun K hK => ?_)
  refine quiet_value (.agg #[.int .i64 a, .slice A l.length c]) (fun W hW => ?_) (hK _ ?_)
  · clear hK
    have q0 := hW.cell cPa0_7
    have q1 := hW.cell cPa1_7
    clear hW
    go_simp
  clear hK K
  simp only [Act.put, List.setIfInBounds_toArray, List.set_cons_zero, List.set_cons_succ]
  refine BigFrame.wpQuiet_want (by rfl) (fun K hK => ?_)
  refine quiet_value (.int .i64 nm) (fun W hW => ?_) (hK _ ?_)
  · clear hK
    clear hW
    go_simp
  clear hK K
  simp only [Act.put, List.setIfInBounds_toArray, List.set_cons_zero, List.set_cons_succ]
  refine BigFrame.wpQuiet_want (by rfl) (fun K hK => ?_)
  refine quiet_call 21 #[.agg #[.int .i64 a, .slice A l.length c], .int .i64 nm] (.int .i64 mkd) (fun W => ?_) (fun W hW => ?_) (hK _ ?_)
  · clear hK
    go_simp
  · refine ((MKD.out ▸ (rmarked_calls a l A c B nm W (Ha_7.out.below (hW.mono HBB_7.out)) (Nat.le_trans HBB_7.out hW.size)) : Calls Tryd.prog _ _ W fun e w' => e = .returned (.int .i64 mkd) ∧ Below W.heap.size W w')).mono ?_
    rintro e w' ⟨rfl, hb⟩
    exact ⟨rfl, hW.trans hb⟩
  clear hK K
  simp only [Act.put, List.setIfInBounds_toArray, List.set_cons_zero, List.set_cons_succ]
  refine BigFrame.wpQuiet_want (by rfl) (fun K hK => ?_)
  refine quiet_value (.bool false) (fun W hW => ?_) (hK _ ?_)
  · clear hK
    clear hW
    go_simp
  clear hK K
  simp only [Act.put, List.setIfInBounds_toArray, List.set_cons_zero, List.set_cons_succ]
  refine BigFrame.wpQuiet_want (by rfl) (fun K hK => ?_)
  refine quiet_value (.bool false) (fun W hW => ?_) (hK _ ?_)
  · clear hK
    clear hW
    go_simp
  clear hK K
  simp only [Act.put, List.setIfInBounds_toArray, List.set_cons_zero, List.set_cons_succ]
  refine BigFrame.wpQuiet_want (by rfl) (fun K hK => ?_)
  refine quiet_value (.bool false) (fun W hW => ?_) (hK _ ?_)
  · clear hK
    clear hW
    go_simp
  clear hK K
  simp only [Act.put, List.setIfInBounds_toArray, List.set_cons_zero, List.set_cons_succ]
  refine BigFrame.wpQuiet_want (by rfl) (fun K hK => ?_)
  refine quiet_value (.agg #[.int .i64 a, .slice (some ⟨g1, 0, none⟩) l.length c1]) (fun W hW => ?_) (hK _ ?_)
  · clear hK
    have q0 := hW.cell cPx0_7
    have q1 := hW.cell cPx1_7
    clear hW
    go_simp
  clear hK K
  simp only [Act.put, List.setIfInBounds_toArray, List.set_cons_zero, List.set_cons_succ]
  refine BigFrame.wpQuiet_want (by rfl) (fun K hK => ?_)
  refine quiet_value (.int .i64 nm) (fun W hW => ?_) (hK _ ?_)
  · clear hK
    clear hW
    go_simp
  clear hK K
  simp only [Act.put, List.setIfInBounds_toArray, List.set_cons_zero, List.set_cons_succ]
  refine BigFrame.wpQuiet_want (by rfl) (fun K hK => ?_)
  refine quiet_call 22 #[.agg #[.int .i64 a, .slice (some ⟨g1, 0, none⟩) l.length c1], .int .i64 nm] (.int .i64 cov) (fun W => ?_) (fun W hW => ?_) (hK _ ?_)
  · clear hK
    go_simp
  · refine ((COV.out ▸ (cover_calls a l (some ⟨g1, 0, none⟩) c1 w7.heap.size nm W (HX.out.below hW) hW.size) : Calls Tryd.prog _ _ W fun e w' => e = .returned (.int .i64 cov) ∧ Below W.heap.size W w')).mono ?_
    rintro e w' ⟨rfl, hb⟩
    exact ⟨rfl, hW.trans hb⟩
  clear hK K
  simp only [Act.put, List.setIfInBounds_toArray, List.set_cons_zero, List.set_cons_succ]
  refine BigFrame.wpQuiet_want (by rfl) (fun K hK => ?_)
  refine quiet_value (.agg #[.int .i64 a, .slice A l.length c]) (fun W hW => ?_) (hK _ ?_)
  · clear hK
    have q0 := hW.cell cPa0_7
    have q1 := hW.cell cPa1_7
    clear hW
    go_simp
  clear hK K
  simp only [Act.put, List.setIfInBounds_toArray, List.set_cons_zero, List.set_cons_succ]
  refine BigFrame.wpQuiet_want (by rfl) (fun K hK => ?_)
  refine quiet_value (.int .i64 nm) (fun W hW => ?_) (hK _ ?_)
  · clear hK
    clear hW
    go_simp
  clear hK K
  simp only [Act.put, List.setIfInBounds_toArray, List.set_cons_zero, List.set_cons_succ]
  refine BigFrame.wpQuiet_want (by rfl) (fun K hK => ?_)
  refine quiet_call 23 #[.agg #[.int .i64 a, .slice A l.length c], .int .i64 nm] (.int .i64 cov) (fun W => ?_) (fun W hW => ?_) (hK _ ?_)
  · clear hK
    go_simp
  · refine ((COV.out ▸ (rcover_calls a l A c B nm W (Ha_7.out.below (hW.mono HBB_7.out)) (Nat.le_trans HBB_7.out hW.size)) : Calls Tryd.prog _ _ W fun e w' => e = .returned (.int .i64 cov) ∧ Below W.heap.size W w')).mono ?_
    rintro e w' ⟨rfl, hb⟩
    exact ⟨rfl, hW.trans hb⟩
  clear hK K
  simp only [Act.put, List.setIfInBounds_toArray, List.set_cons_zero, List.set_cons_succ]
  refine BigFrame.wpQuiet_want (by rfl) (fun K hK => ?_)
  refine quiet_value (.bool false) (fun W hW => ?_) (hK _ ?_)
  · clear hK
    clear hW
    go_simp
  clear hK K
  simp only [Act.put, List.setIfInBounds_toArray, List.set_cons_zero, List.set_cons_succ]
  refine BigFrame.wpQuiet_want (by rfl) (fun K hK => ?_)
  refine quiet_value (.bool false) (fun W hW => ?_) (hK _ ?_)
  · clear hK
    clear hW
    go_simp
  clear hK K
  simp only [Act.put, List.setIfInBounds_toArray, List.set_cons_zero, List.set_cons_succ]
  refine wpQuiet_nil ?_
  intro WR hiWR
  clear cPa0_7 cPa1_7 cPx0_7 cPx1_7
  clear HX TOT MKD COV
  have Ha_8 := Lib.hid (Ha_7.out.below (hiWR.mono HBB_7.out))
  have HBB_8 : Hid (B ≤ WR.heap.size) := Lib.hid (Nat.le_trans HBB_7.out hiWR.size)
  have HG_8 := Lib.hid (HG_7.out.below hiWR)
  have HB_8 := Lib.hid (HB_7.out.trans (hiWR.mono HB_7.out.size))
  have Pa_8 := Lib.hid (Pa_7.out.below hiWR Pa_7.out.lt)
  have Oa_8 := Lib.hid (own_below Oa_7.out hiWR)
  have Px_8 := Lib.hid (Px_7.out.below hiWR Px_7.out.lt)
  clear hiWR
  have cPa0_8 : WR.cell? ⟨ga, 0, none⟩ = some (.int .i64 a) := Pa_8.out.cell 0
  have cPa1_8 : WR.cell? ⟨ga, 1, none⟩ = some (.slice A l.length c) := Pa_8.out.cell 1
  go_wp2_with (fail)
  clear cPa0_8 cPa1_8
  go_loopw [9, 10] (fun i _ wr => ∃ k : Nat, k ≤ l.length ∧ i = .int .i64 k ∧ Below WR.heap.size WR wr) (fun i _ _ => l.length - (intOf i).toNat)
  case atStart => exact ⟨0, Nat.zero_le _, rfl, Below.refl _ _⟩
  case round =>
    obtain ⟨k, hk, rfl, hbr⟩ := hrel
    have HBR := Lib.hid hbr
    have Ha_9 := Lib.hid (Ha_8.out.below (hbr.mono HBB_8.out))
    have HBB_9 : Hid (B ≤ wr.heap.size) := Lib.hid (Nat.le_trans HBB_8.out hbr.size)
    have HG_9 := Lib.hid (HG_8.out.below hbr)
    have HB_9 := Lib.hid (HB_8.out.trans (hbr.mono HB_8.out.size))
    have Pa_9 := Lib.hid (Pa_8.out.below hbr Pa_8.out.lt)
    have Oa_9 := Lib.hid (own_below Oa_8.out hbr)
    have Px_9 := Lib.hid (Px_8.out.below hbr Px_8.out.lt)
    clear hbr
    have cPa0_9 : wr.cell? ⟨ga, 0, none⟩ = some (.int .i64 a) := Pa_9.out.cell 0
    have cPa1_9 : wr.cell? ⟨ga, 1, none⟩ = some (.slice A l.length c) := Pa_9.out.cell 1
    have cPx0_9 : wr.cell? ⟨gx, 0, none⟩ = some (.int .i64 a) := Px_9.out.cell 0
    have cPx1_9 : wr.cell? ⟨gx, 1, none⟩ = some (.slice (some ⟨g1, 0, none⟩) l.length c1) := Px_9.out.cell 1
    by_cases hlt : k < l.length
    · have hkl : (k : Int) < l.length := by omega
      obtain ⟨ad, rfl, hadb, e0, e1⟩ := marks_at (Ha_9.out.r) hlt
      obtain ⟨nx, hnx⟩ : ∃ x, l[k].m = x := ⟨_, rfl⟩
      rw [hnx] at e0
      clear hnx e1
      have HX : Hid (PosOK wr wr.heap.size a l (some ⟨g1, 0, none⟩)) := ⟨reads_pre (lent_reads Oa_9.out) (by rw [markMarkss_len]), Ha_9.out.a1, Ha_9.out.q1, Ha_9.out.len⟩
      obtain ⟨mkd, hmkd⟩ : ∃ x, markedS a l nx = x := ⟨_, rfl⟩
      have MKD := Lib.hid hmkd
      clear hmkd
      obtain ⟨cov, hcov⟩ : ∃ x, coverS a l nx = x := ⟨_, rfl⟩
      have COV := Lib.hid hcov
      clear hcov
      go_wp2_with (fail)
      refine wp_region_class (InB wr) (by kernel_rfl) (by kernel_rfl) (InB.start _) ?_
      refine BigFrame.wpQuiet_want (by rfl) (fun K hK => ?_)
      refine quiet_value (.agg #[.int .i64 a, .slice (some ⟨g1, 0, none⟩) l.length c1]) (fun W hW => ?_) (hK _ ?_)
      · clear hK
        have q0 := hW.cell cPx0_9
        have q1 := hW.cell cPx1_9
        clear hW
        go_simp
      clear hK K
      simp only [Act.put, List.setIfInBounds_toArray, List.set_cons_zero, List.set_cons_succ]
      refine BigFrame.wpQuiet_want (by rfl) (fun K hK => ?_)
      refine quiet_value (.int .i64 nx) (fun W hW => ?_) (hK _ ?_)
      · clear hK
        clear hW
        go_simp
      clear hK K
      simp only [Act.put, List.setIfInBounds_toArray, List.set_cons_zero, List.set_cons_succ]
      refine BigFrame.wpQuiet_want (by rfl) (fun K hK => ?_)
      refine quiet_call 20 #[.agg #[.int .i64 a, .slice (some ⟨g1, 0, none⟩) l.length c1], .int .i64 nx] (.int .i64 mkd) (fun W => ?_) (fun W hW => ?_) (hK _ ?_)
      · clear hK
        go_simp
      · refine ((MKD.out ▸ (marked_calls a l (some ⟨g1, 0, none⟩) c1 wr.heap.size nx W (HX.out.below hW) hW.size) : Calls Tryd.prog _ _ W fun e w' => e = .returned (.int .i64 mkd) ∧ Below W.heap.size W w')).mono ?_
        rintro e w' ⟨rfl, hb⟩
        exact ⟨rfl, hW.trans hb⟩
      clear hK K
      simp only [Act.put, List.setIfInBounds_toArray, List.set_cons_zero, List.set_cons_succ]
      refine BigFrame.wpQuiet_want (by rfl) (fun K hK => ?_)
      refine quiet_value (.agg #[.int .i64 a, .slice (some ad) l.length c]) (fun W hW => ?_) (hK _ ?_)
      · clear hK
        have q0 := hW.cell cPa0_9
        have q1 := hW.cell cPa1_9
        clear hW
        go_simp
      clear hK K
      simp only [Act.put, List.setIfInBounds_toArray, List.set_cons_zero, List.set_cons_succ]
      refine BigFrame.wpQuiet_want (by rfl) (fun K hK => ?_)
      refine quiet_value (.int .i64 nx) (fun W hW => ?_) (hK _ ?_)
      · clear hK
        clear hW
        go_simp
      clear hK K
      simp only [Act.put, List.setIfInBounds_toArray, List.set_cons_zero, List.set_cons_succ]
      refine BigFrame.wpQuiet_want (by rfl) (fun K hK => ?_)
      refine quiet_call 21 #[.agg #[.int .i64 a, .slice (some ad) l.length c], .int .i64 nx] (.int .i64 mkd) (fun W => ?_) (fun W hW => ?_) (hK _ ?_)
      · clear hK
        go_simp
      · refine ((MKD.out ▸ (rmarked_calls a l (some ad) c B nx W (Ha_9.out.below (hW.mono HBB_9.out)) (Nat.le_trans HBB_9.out hW.size)) : Calls Tryd.prog _ _ W fun e w' => e = .returned (.int .i64 mkd) ∧ Below W.heap.size W w')).mono ?_
        rintro e w' ⟨rfl, hb⟩
        exact ⟨rfl, hW.trans hb⟩
      clear hK K
      simp only [Act.put, List.setIfInBounds_toArray, List.set_cons_zero, List.set_cons_succ]
      refine BigFrame.wpQuiet_want (by rfl) (fun K hK => ?_)
      refine quiet_value (.bool false) (fun W hW => ?_) (hK _ ?_)
      · clear hK
        clear hW
        go_simp
      clear hK K
      simp only [Act.put, List.setIfInBounds_toArray, List.set_cons_zero, List.set_cons_succ]
      refine BigFrame.wpQuiet_want (by rfl) (fun K hK => ?_)
      refine quiet_value (.bool false) (fun W hW => ?_) (hK _ ?_)
      · clear hK
        clear hW
        go_simp
      clear hK K
      simp only [Act.put, List.setIfInBounds_toArray, List.set_cons_zero, List.set_cons_succ]
      refine BigFrame.wpQuiet_want (by rfl) (fun K hK => ?_)
      refine quiet_value (.agg #[.int .i64 a, .slice (some ⟨g1, 0, none⟩) l.length c1]) (fun W hW => ?_) (hK _ ?_)
      · clear hK
        have q0 := hW.cell cPx0_9
        have q1 := hW.cell cPx1_9
        clear hW
        go_simp
      clear hK K
      simp only [Act.put, List.setIfInBounds_toArray, List.set_cons_zero, List.set_cons_succ]
      refine BigFrame.wpQuiet_want (by rfl) (fun K hK => ?_)
      refine quiet_value (.int .i64 nx) (fun W hW => ?_) (hK _ ?_)
      · clear hK
        clear hW
        go_simp
      clear hK K
      simp only [Act.put, List.setIfInBounds_toArray, List.set_cons_zero, List.set_cons_succ]
      refine BigFrame.wpQuiet_want (by rfl) (fun K hK => ?_)
      refine quiet_call 22 #[.agg #[.int .i64 a, .slice (some ⟨g1, 0, none⟩) l.length c1], .int .i64 nx] (.int .i64 cov) (fun W => ?_) (fun W hW => ?_) (hK _ ?_)
      · clear hK
        go_simp
      · refine ((COV.out ▸ (cover_calls a l (some ⟨g1, 0, none⟩) c1 wr.heap.size nx W (HX.out.below hW) hW.size) : Calls Tryd.prog _ _ W fun e w' => e = .returned (.int .i64 cov) ∧ Below W.heap.size W w')).mono ?_
        rintro e w' ⟨rfl, hb⟩
        exact ⟨rfl, hW.trans hb⟩
      clear hK K
      simp only [Act.put, List.setIfInBounds_toArray, List.set_cons_zero, List.set_cons_succ]
      refine BigFrame.wpQuiet_want (by rfl) (fun K hK => ?_)
      refine quiet_value (.agg #[.int .i64 a, .slice (some ad) l.length c]) (fun W hW => ?_) (hK _ ?_)
      · clear hK
        have q0 := hW.cell cPa0_9
        have q1 := hW.cell cPa1_9
        clear hW
        go_simp
      clear hK K
      simp only [Act.put, List.setIfInBounds_toArray, List.set_cons_zero, List.set_cons_succ]
      refine BigFrame.wpQuiet_want (by rfl) (fun K hK => ?_)
      refine quiet_value (.int .i64 nx) (fun W hW => ?_) (hK _ ?_)
      · clear hK
        clear hW
        go_simp
      clear hK K
      simp only [Act.put, List.setIfInBounds_toArray, List.set_cons_zero, List.set_cons_succ]
      refine BigFrame.wpQuiet_want (by rfl) (fun K hK => ?_)
      refine quiet_call 23 #[.agg #[.int .i64 a, .slice (some ad) l.length c], .int .i64 nx] (.int .i64 cov) (fun W => ?_) (fun W hW => ?_) (hK _ ?_)
      · clear hK
        go_simp
      · refine ((COV.out ▸ (rcover_calls a l (some ad) c B nx W (Ha_9.out.below (hW.mono HBB_9.out)) (Nat.le_trans HBB_9.out hW.size)) : Calls Tryd.prog _ _ W fun e w' => e = .returned (.int .i64 cov) ∧ Below W.heap.size W w')).mono ?_
        rintro e w' ⟨rfl, hb⟩
        exact ⟨rfl, hW.trans hb⟩
      clear hK K
      simp only [Act.put, List.setIfInBounds_toArray, List.set_cons_zero, List.set_cons_succ]
      refine BigFrame.wpQuiet_want (by rfl) (fun K hK => ?_)
      refine quiet_value (.bool false) (fun W hW => ?_) (hK _ ?_)
      · clear hK
        clear hW
        go_simp
      clear hK K
      simp only [Act.put, List.setIfInBounds_toArray, List.set_cons_zero, List.set_cons_succ]
      refine BigFrame.wpQuiet_want (by rfl) (fun K hK => ?_)
      refine quiet_value (.bool false) (fun W hW => ?_) (hK _ ?_)
      · clear hK
        clear hW
        go_simp
      clear hK K
      simp only [Act.put, List.setIfInBounds_toArray, List.set_cons_zero, List.set_cons_succ]
      refine wpQuiet_nil ?_
      intro WQ hiWQ
      clear cPa0_9 cPa1_9 cPx0_9 cPx1_9
      have HBQ := Lib.hid (HBR.out.trans (hiWQ.mono HBR.out.size))
      clear hiWQ e0 HX MKD COV
      go_wp2_with (fail)
      go_roundw
      case rel => exact ⟨k + 1, by omega, by go_num, HBQ.out⟩
      case measure => simp [intOf]; omega
    · obtain rfl : k = l.length := by omega
      have FX := Lib.hid (lent_reads Oa_9.out)
      have RA := Lib.hid (Ha_9.out.r.more HBB_9.out)
      go_wp2_with (fail)
      refine (keptPos_calls a l g1 A c1 c wr.heap.size wr FX.out Ka_3.out RA.out (Nat.le_refl _) (by omega)).mono ?_
      rintro e w10 ⟨rfl, hbw10⟩
      clear FX RA
      clear cPa0_9 cPa1_9 cPx0_9 cPx1_9
      have Ha_10 := Lib.hid (Ha_9.out.below (hbw10.mono HBB_9.out))
      have HBB_10 : Hid (B ≤ w10.heap.size) := Lib.hid (Nat.le_trans HBB_9.out hbw10.size)
      have HG_10 := Lib.hid (HG_9.out.below hbw10)
      have HB_10 := Lib.hid (HB_9.out.trans (hbw10.mono HB_9.out.size))
      have Pa_10 := Lib.hid (Pa_9.out.below hbw10 Pa_9.out.lt)
      have Oa_10 := Lib.hid (own_below Oa_9.out hbw10)
      have Px_10 := Lib.hid (Px_9.out.below hbw10 Px_9.out.lt)
      clear hbw10
      go_wp2_with (fail)
      go_ret
      exact ⟨rfl, HB_10.out⟩
end Go.Proofs.YtcgcgekefhhjhaaDoor
