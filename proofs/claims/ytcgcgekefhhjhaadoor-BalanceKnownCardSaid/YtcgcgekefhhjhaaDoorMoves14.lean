/- balance.Debit, Mark, Unmark by contracts (printed by gen_moves14.py). -/
import Derived.Test.YtcgcgekefhhjhaaDoorMark14
import Derived.Test.YtcgcgekefhhjhaaDoorCredit14
namespace Go.Proofs.YtcgcgekefhhjhaaDoor
set_option linter.unusedSimpArgs false
set_option linter.unusedVariables false
open Go.RowKit

theorem markTo_calls (a : Int) (l : List Mk) (A : Option Addr) (c B : Nat) (free n m a' : Int) (L : List Mk) (w : World) (h : PosOK w B a l A) (hB : B ≤ w.heap.size) (hrt : Right a l)
    (ha : -9223372036854775808 ≤ a' ∧ a' ≤ 9223372036854775807) (hae : a + free = a') (hL : setQ l n (getQ l n + m) = L) (hg : -9223372036854775808 ≤ getQ l n + m ∧ getQ l n + m ≤ 9223372036854775807) :
    Calls Tryd.prog 45 #[.agg #[.int .i64 a, .slice A l.length c], .int .i64 free, .int .i64 n, .int .i64 m] w
      fun e w' => ∃ A' c', e = .returned (.agg #[.int .i64 a', .slice A' L.length c']) ∧ OwnM w' w.heap.size (.slice A' L.length c') L ∧ Below w.heap.size w w' := by
  subst hae
  by_cases hm : m = 0
  · subst hm
    rw [Int.add_zero, setQ_getQ hrt.up hrt.q] at hL
    subst hL
    refine (mark0_calls a l A c B free n w h hB ha).mono ?_
    rintro e w' ⟨v, rfl, ho, hb⟩
    obtain ⟨A', c', rfl⟩ := own_slice ho
    exact ⟨A', c', rfl, ho, hb⟩
  · refine (mark_calls a l A c B free n m w h hB ha hrt hm hg.1 hg.2).mono ?_
    rintro e w' ⟨v, rfl, ho, hb⟩
    rw [hL] at ho
    obtain ⟨A', c', rfl⟩ := own_slice ho
    exact ⟨A', c', rfl, ho, hb⟩

set_option maxRecDepth 100000 in
set_option maxHeartbeats 4000000 in
theorem debit_calls (a : Int) (l : List Mk) (A : Option Addr) (c B : Nat) (q n : Int) (w : World) (h : PosOK w B a l A) (hB : B ≤ w.heap.size) (hG : HG w) (hq : q ≤ 9223372036854775807) :
    Calls Tryd.prog 24 #[.agg #[.int .i64 a, .slice A l.length c], .int .i64 q, .int .i64 n] w (ResTo w (debitS a l q n)) := by
  obtain ⟨gp, hgp⟩ : ∃ g, w.heap.size = g := ⟨_, rfl⟩
  obtain ⟨W1, hW1⟩ : ∃ W, w.alloc (.cells #[.int .i64 a, .slice A l.length c] 24) = W := ⟨_, rfl⟩
  obtain ⟨W2, hW2⟩ : ∃ W, W1.alloc (.cells #[.int .i64 0, .slice none 0 0] 24) = W := ⟨_, rfl⟩
  obtain ⟨gr, hgr⟩ : ∃ g, W1.heap.size = g := ⟨_, rfl⟩
  have hb1 : Below w.heap.size w W1 := hW1 ▸ (Below.refl _ _).alloc (Nat.le_refl _) _
  have hb2 : Below w.heap.size w W2 := hW2 ▸ hb1.alloc hb1.size _
  have hp : Blk W2 gp 24 #[.int .i64 a, .slice A l.length c] := by rw [← hW2, ← hW1]; exact (blkNew hgp).alloc _
  have hr : Blk W2 gr 24 #[.int .i64 0, .slice none 0 0] := by rw [← hW2]; exact blkNew hgr
  have hgr2 : gr = gp + 1 := by rw [← hgr, ← hW1]; simp [hgp]
  have hge : w.heap.size ≤ gr := by omega
  have H := Lib.hid (h.below (hb2.mono hB))
  have HGG := Lib.hid (hG.below hb2)
  have HBB := Lib.hid (Nat.le_trans hB hb2.size)
  have HB2 := Lib.hid hb2
  have HP := Lib.hid hp
  have HR := Lib.hid hr
  have HGE := Lib.hid hge
  have p0 : W2.cell? ⟨gp, 0, none⟩ = some (.int .i64 a) := hp.cell 0
  have p1 : W2.cell? ⟨gp, 1, none⟩ = some (.slice A l.length c) := hp.cell 1
  clear h hb1 hb2 hp hr hB hgr2 hge hG
  go_enter Tryd.func24, Tryd.ntmps24
  go_wp2_with (fail)
  refine (begin_calls a l A c B q n 0 W2 H.out HBB.out).mono ?_
  rintro e w3 ⟨hb3, v, rfl, hv⟩
  have HB3 := Lib.hid (HB2.out.trans (hb3.mono HB2.out.size))
  have H3 := Lib.hid (H.out.below (hb3.mono HBB.out))
  have HG3 := Lib.hid (HGG.out.below hb3)
  have HBB3 := Lib.hid (Nat.le_trans HBB.out hb3.size)
  have HP3 := Lib.hid (HP.out.below hb3 HP.out.lt)
  have HR3 := Lib.hid (HR.out.below hb3 HR.out.lt)
  have q0 : w3.cell? ⟨gp, 0, none⟩ = some (.int .i64 a) := HP3.out.cell 0
  have q1 : w3.cell? ⟨gp, 1, none⟩ = some (.slice A l.length c) := HP3.out.cell 1
  by_cases hbz : (beginS a l q n 0).1 = 0
  · obtain ⟨hz1, hq1, hn0, hn1⟩ := begin_zero hbz
    have hr := right_of_check H.out.a1 hz1
    have ht1 := hr.sum
    have hv0 : v = .nilIface := by
      rcases hv with ⟨_, h⟩ | ⟨h, _⟩ | ⟨h, _⟩
      · exact h
      · exact absurd hbz h
      · exact absurd hbz h
    subst hv0
    rw [if_pos hbz]
    unfold MaxA at ht1
    obtain ⟨tt, htt⟩ : ∃ tt, totalS a l = tt := ⟨_, rfl⟩
    rw [htt]
    have HBZ := Lib.hid hbz
    have ha0 := hr.a0
    have ha1 := H.out.a1
    have hg0 := getQ_nonneg hr.q n
    have hg1 := getQ_le hr.q n
    have hs0 := sumQ_nonneg hr.q
    have hmk := right_marked hr n
    have hcv := right_cover hr n
    obtain ⟨gq, hgq⟩ : ∃ g, getQ l n = g := ⟨_, rfl⟩
    obtain ⟨sq, hsq⟩ : ∃ s, sumQ l = s := ⟨_, rfl⟩
    rw [hgq] at hg0 hg1 hmk hcv
    rw [hsq] at ht1 hg1 hs0
    have HRT := Lib.hid hr
    have HGQ := Lib.hid hgq
    have HMK := Lib.hid hmk
    have HCV := Lib.hid hcv
    have NUM : Hid (0 ≤ gq ∧ gq ≤ sq ∧ a + sq ≤ 9223372036854775807 ∧ 0 ≤ a ∧ 1 ≤ q ∧ q ≤ 9223372036854775807 ∧ 0 ≤ sq ∧ a ≤ 9223372036854775807) := ⟨hg0, hg1, ht1, ha0, hq1, hq, hs0, ha1⟩
    clear hb3 hv hz1 hr hbz p0 p1 hW1 hW2 hgr hgp htt hg1 hs0 hmk hcv hgq hsq ht1 hn0 hn1
    go_wp2_with (fail)
    refine (cover_calls a l A c B n w3 H3.out HBB3.out).mono ?_
    rintro e w4 ⟨rfl, hb4⟩
    rw [HCV.out]
    have HB4 := Lib.hid (HB3.out.trans (hb4.mono HB3.out.size))
    have H4 := Lib.hid (H3.out.below (hb4.mono HBB3.out))
    have HG4 := Lib.hid (HG3.out.below hb4)
    have HBB4 := Lib.hid (Nat.le_trans HBB3.out hb4.size)
    have HP4 := Lib.hid (HP3.out.below hb4 HP3.out.lt)
    have HR4 := Lib.hid (HR3.out.below hb4 HR3.out.lt)
    have r0 : w4.cell? ⟨gp, 0, none⟩ = some (.int .i64 a) := HP4.out.cell 0
    have r1 : w4.cell? ⟨gp, 1, none⟩ = some (.slice A l.length c) := HP4.out.cell 1
    clear hb4 q0 q1
    by_cases hc : a + gq < q
    · have hcr : debitS a l q n = .bad (18, none) := by unfold debitS; rw [if_pos HBZ.out, HCV.out, if_pos hc]
      have HCR := Lib.hid hcr
      clear hcr
      go_wp2_with (go_at_call 40; refine (refuse_calls (18, none) _ w4.heap.size w4 HG4.out (by decide) (.inr (.inl ⟨by decide, rfl, rfl⟩))).mono ?_; rintro e wx ⟨rfl, hbx⟩; have hrx := HR4.out.below hbx HR4.out.lt; have HRX := Lib.hid hrx; have HBX := Lib.hid (HB4.out.trans (hbx.mono HB4.out.size)); have m0 : wx.cell? ⟨gr, 0, none⟩ = some (.int .i64 0) := hrx.cell 0; have m1 : wx.cell? ⟨gr, 1, none⟩ = some (.slice none 0 0) := hrx.cell 1; have z0 := hrx.frozen 0; have z1 := hrx.frozen 1; have s0 := setCell_same (v := .int .i64 0) (i := 0) hrx rfl; have s1 := setCell_same (v := .slice none 0 0) (i := 1) hrx rfl; unfold zeroP; clear hbx hrx)
      exact ⟨rfl, _, results_cell_tmp Tryd.results24 rfl [.int .i64 0, .slice none 0 0] HRX.out Tryd.underlying24 rfl Tryd.sizeP, by rw [HCR.out]; exact resBad HBX.out⟩
    · have HC := Lib.hid hc
      go_wp2_with (fail)
      refine (marked_calls a l A c B n w4 H4.out HBB4.out).mono ?_
      rintro e w5 ⟨rfl, hb5⟩
      rw [HMK.out]
      have HB5 := Lib.hid (HB4.out.trans (hb5.mono HB4.out.size))
      have H5 := Lib.hid (H4.out.below (hb5.mono HBB4.out))
      have HG5 := Lib.hid (HG4.out.below hb5)
      have HBB5 := Lib.hid (Nat.le_trans HBB4.out hb5.size)
      have HP5 := Lib.hid (HP4.out.below hb5 HP4.out.lt)
      have HR5 := Lib.hid (HR4.out.below hb5 HR4.out.lt)
      have s0 : w5.cell? ⟨gp, 0, none⟩ = some (.int .i64 a) := HP5.out.cell 0
      have s1 : w5.cell? ⟨gp, 1, none⟩ = some (.slice A l.length c) := HP5.out.cell 1
      clear hb5 r0 r1
      by_cases hlt : gq ≤ q
      · have hmn : min gq q = gq := by omega
        have hcr : debitS a l q n = ⟨0, none, a + gq - q, setQ l n (getQ l n - gq)⟩ := by unfold debitS; rw [if_pos HBZ.out, HCV.out, if_neg (show ¬ a + gq < q by have := HC.out; omega), HGQ.out, show min gq q = gq from by omega]
        obtain ⟨a1, ha1⟩ : ∃ x, a + gq - q = x := ⟨_, rfl⟩
        obtain ⟨L, hL⟩ : ∃ x, setQ l n (getQ l n - gq) = x := ⟨_, rfl⟩
        rw [ha1, hL] at hcr
        have HCR := Lib.hid hcr
        have HAE : Hid (a + (gq - q) = a1) := by show _ = _; omega
        have HLE : Hid (setQ l n (getQ l n + -gq) = L) := hL
        have HRA : Hid (-9223372036854775808 ≤ a1 ∧ a1 ≤ 9223372036854775807) := by have := NUM.out; exact ⟨by omega, by omega⟩
        have HGM : Hid (-9223372036854775808 ≤ getQ l n + -gq ∧ getQ l n + -gq ≤ 9223372036854775807) := by have := NUM.out; have := HGQ.out; exact ⟨by omega, by omega⟩
        have hw1 : IntKind.i64.wrap (gq - q) = gq - q := IntWalk.i64_in _ (by have := NUM.out; omega)
        have hw2 : IntKind.i64.wrap (-gq) = -gq := IntWalk.i64_in _ (by have := NUM.out; omega)
        clear hcr ha1 hL hg0 ha0 hq1
        go_wp2_with (go_at_call 45; refine (markTo_calls a l A c B (gq - q) n (-gq) a1 L w5 H5.out HBB5.out HRT.out HRA.out HAE.out HLE.out HGM.out).mono ?_; rintro e wx ⟨AX, cx, rfl, hmx, hbx⟩; have hrx := HR5.out.below hbx HR5.out.lt; have HRX := Lib.hid hrx; have HMX := Lib.hid (hmx.base HB5.out.size); have HBX := Lib.hid (HB5.out.trans (hbx.mono HB5.out.size)); have m0 : wx.cell? ⟨gr, 0, none⟩ = some (.int .i64 0) := hrx.cell 0; have m1 : wx.cell? ⟨gr, 1, none⟩ = some (.slice none 0 0) := hrx.cell 1; have z0 := hrx.frozen 0; have z1 := hrx.frozen 1; clear hbx hrx hmx)
        have hrr := (HRX.out.set_ 0 (.int .i64 a1)).set_ 1 (.slice AX L.length cx)
        refine ⟨rfl, _, results_cell_tmp Tryd.results24 rfl [.int .i64 a1, .slice AX L.length cx] hrr Tryd.underlying24 rfl Tryd.sizeP, ?_⟩
        rw [HCR.out]
        exact ⟨(HBX.out.setCell (p := ⟨gr, 0, none⟩) HGE.out _).setCell (p := ⟨gr, 1, none⟩) HGE.out _, _, rfl, (HMX.out.far HRX.out _ _).far (HRX.out.set_ 0 _) _ _⟩
      · have hmn : min gq q = q := by omega
        have hlt' : q < gq := by omega
        have hlt'' : ¬ gq < q := by omega
        have hcr : debitS a l q n = ⟨0, none, a + q - q, setQ l n (getQ l n - q)⟩ := by unfold debitS; rw [if_pos HBZ.out, HCV.out, if_neg (show ¬ a + gq < q by have := HC.out; omega), HGQ.out, show min gq q = q from by omega]
        obtain ⟨a1, ha1⟩ : ∃ x, a + q - q = x := ⟨_, rfl⟩
        obtain ⟨L, hL⟩ : ∃ x, setQ l n (getQ l n - q) = x := ⟨_, rfl⟩
        rw [ha1, hL] at hcr
        have HCR := Lib.hid hcr
        have HAE : Hid (a + 0 = a1) := by show _ = _; omega
        have HLE : Hid (setQ l n (getQ l n + -q) = L) := hL
        have HRA : Hid (-9223372036854775808 ≤ a1 ∧ a1 ≤ 9223372036854775807) := by have := NUM.out; exact ⟨by omega, by omega⟩
        have HGM : Hid (-9223372036854775808 ≤ getQ l n + -q ∧ getQ l n + -q ≤ 9223372036854775807) := by have := NUM.out; have := HGQ.out; exact ⟨by omega, by omega⟩
        have hw1 : IntKind.i64.wrap (q - q) = q - q := IntWalk.i64_in _ (by have := NUM.out; omega)
        have hw2 : IntKind.i64.wrap (-q) = -q := IntWalk.i64_in _ (by have := NUM.out; omega)
        clear hcr ha1 hL hg0 ha0 hq1
        go_wp2_with (go_at_call 45; refine (markTo_calls a l A c B 0 n (-q) a1 L w5 H5.out HBB5.out HRT.out HRA.out HAE.out HLE.out HGM.out).mono ?_; rintro e wx ⟨AX, cx, rfl, hmx, hbx⟩; have hrx := HR5.out.below hbx HR5.out.lt; have HRX := Lib.hid hrx; have HMX := Lib.hid (hmx.base HB5.out.size); have HBX := Lib.hid (HB5.out.trans (hbx.mono HB5.out.size)); have m0 : wx.cell? ⟨gr, 0, none⟩ = some (.int .i64 0) := hrx.cell 0; have m1 : wx.cell? ⟨gr, 1, none⟩ = some (.slice none 0 0) := hrx.cell 1; have z0 := hrx.frozen 0; have z1 := hrx.frozen 1; clear hbx hrx hmx)
        have hrr := (HRX.out.set_ 0 (.int .i64 a1)).set_ 1 (.slice AX L.length cx)
        refine ⟨rfl, _, results_cell_tmp Tryd.results24 rfl [.int .i64 a1, .slice AX L.length cx] hrr Tryd.underlying24 rfl Tryd.sizeP, ?_⟩
        rw [HCR.out]
        exact ⟨(HBX.out.setCell (p := ⟨gr, 0, none⟩) HGE.out _).setCell (p := ⟨gr, 1, none⟩) HGE.out _, _, rfl, (HMX.out.far HRX.out _ _).far (HRX.out.set_ 0 _) _ _⟩
  · have hcr : debitS a l q n = .bad (beginS a l q n 0) := by unfold debitS; rw [if_neg hbz]
    have HCR := Lib.hid hcr
    have HZ := Lib.hid hbz
    have HV := Lib.hid (hv.mono_b (Nat.zero_le _))
    rw [if_neg hbz]
    have hne : v ≠ .nilIface := by
      rcases hv with ⟨h, _⟩ | ⟨_, _, rfl⟩ | ⟨_, _, _, _, _, rfl, _⟩
      · exact absurd h hbz
      · simp
      · simp
    clear hcr hbz hb3 p0 p1 hW1 hW2 hgr hgp
    rcases hv with ⟨h, _⟩ | ⟨_, _, rfl⟩ | ⟨_, _, _, g, _, rfl, _⟩
    · exact absurd h HZ.out
    · clear hne
      go_wp2_with (go_at_call 40; refine (refuse_calls (beginS a l q n 0) _ 0 w3 HG3.out HZ.out HV.out).mono ?_; rintro e wx ⟨rfl, hbx⟩; have hrx := HR3.out.below hbx HR3.out.lt; have HRX := Lib.hid hrx; have HBX := Lib.hid (HB3.out.trans (hbx.mono HB3.out.size)); have m0 : wx.cell? ⟨gr, 0, none⟩ = some (.int .i64 0) := hrx.cell 0; have m1 : wx.cell? ⟨gr, 1, none⟩ = some (.slice none 0 0) := hrx.cell 1; have z0 := hrx.frozen 0; have z1 := hrx.frozen 1; have s0 := setCell_same (v := .int .i64 0) (i := 0) hrx rfl; have s1 := setCell_same (v := .slice none 0 0) (i := 1) hrx rfl; unfold zeroP; clear hbx hrx)
      exact ⟨rfl, _, results_cell_tmp Tryd.results24 rfl [.int .i64 0, .slice none 0 0] HRX.out Tryd.underlying24 rfl Tryd.sizeP, by rw [HCR.out]; exact resBad HBX.out⟩
    · clear hne
      go_wp2_with (go_at_call 40; refine (refuse_calls (beginS a l q n 0) _ 0 w3 HG3.out HZ.out HV.out).mono ?_; rintro e wx ⟨rfl, hbx⟩; have hrx := HR3.out.below hbx HR3.out.lt; have HRX := Lib.hid hrx; have HBX := Lib.hid (HB3.out.trans (hbx.mono HB3.out.size)); have m0 : wx.cell? ⟨gr, 0, none⟩ = some (.int .i64 0) := hrx.cell 0; have m1 : wx.cell? ⟨gr, 1, none⟩ = some (.slice none 0 0) := hrx.cell 1; have z0 := hrx.frozen 0; have z1 := hrx.frozen 1; have s0 := setCell_same (v := .int .i64 0) (i := 0) hrx rfl; have s1 := setCell_same (v := .slice none 0 0) (i := 1) hrx rfl; unfold zeroP; clear hbx hrx)
      exact ⟨rfl, _, results_cell_tmp Tryd.results24 rfl [.int .i64 0, .slice none 0 0] HRX.out Tryd.underlying24 rfl Tryd.sizeP, by rw [HCR.out]; exact resBad HBX.out⟩

set_option maxRecDepth 100000 in
set_option maxHeartbeats 4000000 in
theorem markX_calls (a : Int) (l : List Mk) (A : Option Addr) (c B : Nat) (q n : Int) (w : World) (h : PosOK w B a l A) (hB : B ≤ w.heap.size) (hG : HG w) (hq : q ≤ 9223372036854775807) :
    Calls Tryd.prog 28 #[.agg #[.int .i64 a, .slice A l.length c], .int .i64 q, .int .i64 n] w (ResTo w (markS a l q n)) := by
  obtain ⟨gp, hgp⟩ : ∃ g, w.heap.size = g := ⟨_, rfl⟩
  obtain ⟨W1, hW1⟩ : ∃ W, w.alloc (.cells #[.int .i64 a, .slice A l.length c] 24) = W := ⟨_, rfl⟩
  obtain ⟨W2, hW2⟩ : ∃ W, W1.alloc (.cells #[.int .i64 0, .slice none 0 0] 24) = W := ⟨_, rfl⟩
  obtain ⟨gr, hgr⟩ : ∃ g, W1.heap.size = g := ⟨_, rfl⟩
  have hb1 : Below w.heap.size w W1 := hW1 ▸ (Below.refl _ _).alloc (Nat.le_refl _) _
  have hb2 : Below w.heap.size w W2 := hW2 ▸ hb1.alloc hb1.size _
  have hp : Blk W2 gp 24 #[.int .i64 a, .slice A l.length c] := by rw [← hW2, ← hW1]; exact (blkNew hgp).alloc _
  have hr : Blk W2 gr 24 #[.int .i64 0, .slice none 0 0] := by rw [← hW2]; exact blkNew hgr
  have hgr2 : gr = gp + 1 := by rw [← hgr, ← hW1]; simp [hgp]
  have hge : w.heap.size ≤ gr := by omega
  have H := Lib.hid (h.below (hb2.mono hB))
  have HGG := Lib.hid (hG.below hb2)
  have HBB := Lib.hid (Nat.le_trans hB hb2.size)
  have HB2 := Lib.hid hb2
  have HP := Lib.hid hp
  have HR := Lib.hid hr
  have HGE := Lib.hid hge
  have p0 : W2.cell? ⟨gp, 0, none⟩ = some (.int .i64 a) := hp.cell 0
  have p1 : W2.cell? ⟨gp, 1, none⟩ = some (.slice A l.length c) := hp.cell 1
  clear h hb1 hb2 hp hr hB hgr2 hge hG
  go_enter Tryd.func28, Tryd.ntmps28
  go_wp2_with (fail)
  refine (begin_calls a l A c B q n 1 W2 H.out HBB.out).mono ?_
  rintro e w3 ⟨hb3, v, rfl, hv⟩
  have HB3 := Lib.hid (HB2.out.trans (hb3.mono HB2.out.size))
  have H3 := Lib.hid (H.out.below (hb3.mono HBB.out))
  have HG3 := Lib.hid (HGG.out.below hb3)
  have HBB3 := Lib.hid (Nat.le_trans HBB.out hb3.size)
  have HP3 := Lib.hid (HP.out.below hb3 HP.out.lt)
  have HR3 := Lib.hid (HR.out.below hb3 HR.out.lt)
  have q0 : w3.cell? ⟨gp, 0, none⟩ = some (.int .i64 a) := HP3.out.cell 0
  have q1 : w3.cell? ⟨gp, 1, none⟩ = some (.slice A l.length c) := HP3.out.cell 1
  by_cases hbz : (beginS a l q n 1).1 = 0
  · obtain ⟨hz1, hq1, hn0, hn1⟩ := begin_zero hbz
    have hr := right_of_check H.out.a1 hz1
    have ht1 := hr.sum
    have hv0 : v = .nilIface := by
      rcases hv with ⟨_, h⟩ | ⟨h, _⟩ | ⟨h, _⟩
      · exact h
      · exact absurd hbz h
      · exact absurd hbz h
    subst hv0
    rw [if_pos hbz]
    unfold MaxA at ht1
    obtain ⟨tt, htt⟩ : ∃ tt, totalS a l = tt := ⟨_, rfl⟩
    rw [htt]
    have HBZ := Lib.hid hbz
    have ha0 := hr.a0
    have ha1 := H.out.a1
    have hg0 := getQ_nonneg hr.q n
    have hg1 := getQ_le hr.q n
    have hs0 := sumQ_nonneg hr.q
    have hmk := right_marked hr n
    have hcv := right_cover hr n
    obtain ⟨gq, hgq⟩ : ∃ g, getQ l n = g := ⟨_, rfl⟩
    obtain ⟨sq, hsq⟩ : ∃ s, sumQ l = s := ⟨_, rfl⟩
    rw [hgq] at hg0 hg1 hmk hcv
    rw [hsq] at ht1 hg1 hs0
    have HRT := Lib.hid hr
    have HGQ := Lib.hid hgq
    have HMK := Lib.hid hmk
    have HCV := Lib.hid hcv
    have NUM : Hid (0 ≤ gq ∧ gq ≤ sq ∧ a + sq ≤ 9223372036854775807 ∧ 0 ≤ a ∧ 1 ≤ q ∧ q ≤ 9223372036854775807 ∧ 0 ≤ sq ∧ a ≤ 9223372036854775807) := ⟨hg0, hg1, ht1, ha0, hq1, hq, hs0, ha1⟩
    clear hb3 hv hz1 hr hbz p0 p1 hW1 hW2 hgr hgp htt hg1 hs0 hmk hcv hgq hsq ht1 hn0 hn1
    by_cases hc : a < q
    · have hcr : markS a l q n = .bad (18, none) := by unfold markS; rw [if_pos HBZ.out, if_pos hc]
      have HCR := Lib.hid hcr
      clear hcr
      go_wp2_with (fail)
      refine (find_calls a l A c B n w3 H3.out.r HBB3.out (by have := H3.out.len; omega)).mono ?_
      rintro e w4 ⟨hb4, i, hpl, rfl⟩
      have HBX4 := Lib.hid hb4
      have HB4 := Lib.hid (HB3.out.trans (hb4.mono HB3.out.size))
      have H4 := Lib.hid (H3.out.below (hb4.mono HBB3.out))
      have HG4 := Lib.hid (HG3.out.below hb4)
      have HBB4 := Lib.hid (Nat.le_trans HBB3.out hb4.size)
      have HP4 := Lib.hid (HP3.out.below hb4 HP3.out.lt)
      have HR4 := Lib.hid (HR3.out.below hb4 HR3.out.lt)
      have u0 : w4.cell? ⟨gp, 0, none⟩ = some (.int .i64 a) := HP4.out.cell 0
      have u1 : w4.cell? ⟨gp, 1, none⟩ = some (.slice A l.length c) := HP4.out.cell 1
      have HPL := Lib.hid hpl
      obtain ⟨ok, hok⟩ : ∃ b, isAt l n i = b := ⟨_, rfl⟩
      have HOK := Lib.hid hok
      rw [hok]
      clear hb4 hpl hok q0 q1
      go_wp2_with (go_at_call 40; refine (refuse_calls (18, none) _ w4.heap.size w4 HG4.out (by decide) (.inr (.inl ⟨by decide, rfl, rfl⟩))).mono ?_; rintro e wx ⟨rfl, hbx⟩; have hrx := HR4.out.below hbx HR4.out.lt; have HRX := Lib.hid hrx; have HBX := Lib.hid (HB4.out.trans (hbx.mono HB4.out.size)); have m0 : wx.cell? ⟨gr, 0, none⟩ = some (.int .i64 0) := hrx.cell 0; have m1 : wx.cell? ⟨gr, 1, none⟩ = some (.slice none 0 0) := hrx.cell 1; have z0 := hrx.frozen 0; have z1 := hrx.frozen 1; have s0 := setCell_same (v := .int .i64 0) (i := 0) hrx rfl; have s1 := setCell_same (v := .slice none 0 0) (i := 1) hrx rfl; unfold zeroP; clear hbx hrx)
      exact ⟨rfl, _, results_cell_tmp Tryd.results28 rfl [.int .i64 0, .slice none 0 0] HRX.out Tryd.underlying24 rfl Tryd.sizeP, by rw [HCR.out]; exact resBad HBX.out⟩
    · have HC := Lib.hid hc
      go_wp2_with (fail)
      refine (find_calls a l A c B n w3 H3.out.r HBB3.out (by have := H3.out.len; omega)).mono ?_
      rintro e w4 ⟨hb4, i, hpl, rfl⟩
      have HBX4 := Lib.hid hb4
      have HB4 := Lib.hid (HB3.out.trans (hb4.mono HB3.out.size))
      have H4 := Lib.hid (H3.out.below (hb4.mono HBB3.out))
      have HG4 := Lib.hid (HG3.out.below hb4)
      have HBB4 := Lib.hid (Nat.le_trans HBB3.out hb4.size)
      have HP4 := Lib.hid (HP3.out.below hb4 HP3.out.lt)
      have HR4 := Lib.hid (HR3.out.below hb4 HR3.out.lt)
      have u0 : w4.cell? ⟨gp, 0, none⟩ = some (.int .i64 a) := HP4.out.cell 0
      have u1 : w4.cell? ⟨gp, 1, none⟩ = some (.slice A l.length c) := HP4.out.cell 1
      have HPL := Lib.hid hpl
      obtain ⟨ok, hok⟩ : ∃ b, isAt l n i = b := ⟨_, rfl⟩
      have HOK := Lib.hid hok
      rw [hok]
      clear hb4 hpl hok q0 q1
      obtain ⟨f1, f2⟩ := place_found HRT.out HPL.out
      rw [HOK.out] at f1 f2
      have hzz : gq = 0 ↔ ok = false := by
        rw [← HGQ.out]
        cases ok with
        | false => exact ⟨fun _ => rfl, fun _ => f1 rfl⟩
        | true =>
          obtain ⟨hi, hx⟩ := f2 rfl
          have := HRT.out.q l[i] (by simp)
          exact ⟨fun h => by omega, fun h => by cases h⟩
      have HZZ := Lib.hid hzz
      clear f1 f2 hzz
      have hgo : ∀ (hgd : ¬ (gq = 0 ∧ 8 ≤ l.length)), markS a l q n = ⟨0, none, a - q, setQ l n (getQ l n + q)⟩ := fun hgd => by unfold markS; rw [if_pos HBZ.out, if_neg (show ¬ a < q by have := HC.out; omega), HGQ.out, if_neg hgd]
      have HGO := Lib.hid hgo
      clear hgo
      cases ok with
      | false =>
        by_cases h8 : 8 ≤ l.length
        · have h8i : (8 : Int) ≤ (l.length : Int) := by omega
          have hcr : markS a l q n = .bad (5, none) := by unfold markS; rw [if_pos HBZ.out, if_neg (show ¬ a < q by have := HC.out; omega), HGQ.out, if_pos ⟨HZZ.out.2 rfl, h8⟩]
          have HCR := Lib.hid hcr
          clear hcr
          go_wp2_with (go_at_call 40; refine (refuse_calls (5, none) _ w4.heap.size w4 HG4.out (by decide) (.inr (.inl ⟨by decide, rfl, rfl⟩))).mono ?_; rintro e wx ⟨rfl, hbx⟩; have hrx := HR4.out.below hbx HR4.out.lt; have HRX := Lib.hid hrx; have HBX := Lib.hid (HB4.out.trans (hbx.mono HB4.out.size)); have m0 : wx.cell? ⟨gr, 0, none⟩ = some (.int .i64 0) := hrx.cell 0; have m1 : wx.cell? ⟨gr, 1, none⟩ = some (.slice none 0 0) := hrx.cell 1; have z0 := hrx.frozen 0; have z1 := hrx.frozen 1; have s0 := setCell_same (v := .int .i64 0) (i := 0) hrx rfl; have s1 := setCell_same (v := .slice none 0 0) (i := 1) hrx rfl; unfold zeroP; clear hbx hrx)
          exact ⟨rfl, _, results_cell_tmp Tryd.results28 rfl [.int .i64 0, .slice none 0 0] HRX.out Tryd.underlying24 rfl Tryd.sizeP, by rw [HCR.out]; exact resBad HBX.out⟩
        · have h8i : ¬ (8 : Int) ≤ (l.length : Int) := by omega
          have hcr := HGO.out (fun h => h8 h.2)
          obtain ⟨a1, ha1⟩ : ∃ x, a - q = x := ⟨_, rfl⟩
          obtain ⟨L, hL⟩ : ∃ x, setQ l n (getQ l n + q) = x := ⟨_, rfl⟩
          rw [ha1, hL] at hcr
          have HCR := Lib.hid hcr
          have HAE : Hid (a + (-q) = a1) := by show _ = _; omega
          have HLE : Hid (setQ l n (getQ l n + q) = L) := hL
          have HRA : Hid (-9223372036854775808 ≤ a1 ∧ a1 ≤ 9223372036854775807) := by have := NUM.out; have := HC.out; exact ⟨by omega, by omega⟩
          have HGM : Hid (-9223372036854775808 ≤ getQ l n + q ∧ getQ l n + q ≤ 9223372036854775807) := by have := NUM.out; have := HGQ.out; have := HC.out; exact ⟨by omega, by omega⟩
          have hw1 : IntKind.i64.wrap (-q) = -q := IntWalk.i64_in _ (by have := NUM.out; omega)
          clear hcr ha1 hL hg0 ha0 hq1
          go_wp2_with (go_at_call 45; refine (markTo_calls a l A c B (-q) n q a1 L w4 H4.out HBB4.out HRT.out HRA.out HAE.out HLE.out HGM.out).mono ?_; rintro e wx ⟨AX, cx, rfl, hmx, hbx⟩; have hrx := HR4.out.below hbx HR4.out.lt; have HRX := Lib.hid hrx; have HMX := Lib.hid (hmx.base HB4.out.size); have HBX := Lib.hid (HB4.out.trans (hbx.mono HB4.out.size)); have m0 : wx.cell? ⟨gr, 0, none⟩ = some (.int .i64 0) := hrx.cell 0; have m1 : wx.cell? ⟨gr, 1, none⟩ = some (.slice none 0 0) := hrx.cell 1; have z0 := hrx.frozen 0; have z1 := hrx.frozen 1; clear hbx hrx hmx)
          have hrr := (HRX.out.set_ 0 (.int .i64 a1)).set_ 1 (.slice AX L.length cx)
          refine ⟨rfl, _, results_cell_tmp Tryd.results28 rfl [.int .i64 a1, .slice AX L.length cx] hrr Tryd.underlying24 rfl Tryd.sizeP, ?_⟩
          rw [HCR.out]
          exact ⟨(HBX.out.setCell (p := ⟨gr, 0, none⟩) HGE.out _).setCell (p := ⟨gr, 1, none⟩) HGE.out _, _, rfl, (HMX.out.far HRX.out _ _).far (HRX.out.set_ 0 _) _ _⟩
      | true =>
        have hcr := HGO.out (fun h => by have := HZZ.out.1 h.1; cases this)
        obtain ⟨a1, ha1⟩ : ∃ x, a - q = x := ⟨_, rfl⟩
        obtain ⟨L, hL⟩ : ∃ x, setQ l n (getQ l n + q) = x := ⟨_, rfl⟩
        rw [ha1, hL] at hcr
        have HCR := Lib.hid hcr
        have HAE : Hid (a + (-q) = a1) := by show _ = _; omega
        have HLE : Hid (setQ l n (getQ l n + q) = L) := hL
        have HRA : Hid (-9223372036854775808 ≤ a1 ∧ a1 ≤ 9223372036854775807) := by have := NUM.out; have := HC.out; exact ⟨by omega, by omega⟩
        have HGM : Hid (-9223372036854775808 ≤ getQ l n + q ∧ getQ l n + q ≤ 9223372036854775807) := by have := NUM.out; have := HGQ.out; have := HC.out; exact ⟨by omega, by omega⟩
        have hw1 : IntKind.i64.wrap (-q) = -q := IntWalk.i64_in _ (by have := NUM.out; omega)
        clear hcr ha1 hL hg0 ha0 hq1
        go_wp2_with (go_at_call 45; refine (markTo_calls a l A c B (-q) n q a1 L w4 H4.out HBB4.out HRT.out HRA.out HAE.out HLE.out HGM.out).mono ?_; rintro e wx ⟨AX, cx, rfl, hmx, hbx⟩; have hrx := HR4.out.below hbx HR4.out.lt; have HRX := Lib.hid hrx; have HMX := Lib.hid (hmx.base HB4.out.size); have HBX := Lib.hid (HB4.out.trans (hbx.mono HB4.out.size)); have m0 : wx.cell? ⟨gr, 0, none⟩ = some (.int .i64 0) := hrx.cell 0; have m1 : wx.cell? ⟨gr, 1, none⟩ = some (.slice none 0 0) := hrx.cell 1; have z0 := hrx.frozen 0; have z1 := hrx.frozen 1; clear hbx hrx hmx)
        have hrr := (HRX.out.set_ 0 (.int .i64 a1)).set_ 1 (.slice AX L.length cx)
        refine ⟨rfl, _, results_cell_tmp Tryd.results28 rfl [.int .i64 a1, .slice AX L.length cx] hrr Tryd.underlying24 rfl Tryd.sizeP, ?_⟩
        rw [HCR.out]
        exact ⟨(HBX.out.setCell (p := ⟨gr, 0, none⟩) HGE.out _).setCell (p := ⟨gr, 1, none⟩) HGE.out _, _, rfl, (HMX.out.far HRX.out _ _).far (HRX.out.set_ 0 _) _ _⟩
  · have hcr : markS a l q n = .bad (beginS a l q n 1) := by unfold markS; rw [if_neg hbz]
    have HCR := Lib.hid hcr
    have HZ := Lib.hid hbz
    have HV := Lib.hid (hv.mono_b (Nat.zero_le _))
    rw [if_neg hbz]
    have hne : v ≠ .nilIface := by
      rcases hv with ⟨h, _⟩ | ⟨_, _, rfl⟩ | ⟨_, _, _, _, _, rfl, _⟩
      · exact absurd h hbz
      · simp
      · simp
    clear hcr hbz hb3 p0 p1 hW1 hW2 hgr hgp
    rcases hv with ⟨h, _⟩ | ⟨_, _, rfl⟩ | ⟨_, _, _, g, _, rfl, _⟩
    · exact absurd h HZ.out
    · clear hne
      go_wp2_with (fail)
      refine (find_calls a l A c B n w3 H3.out.r HBB3.out (by have := H3.out.len; omega)).mono ?_
      rintro e w4 ⟨hb4, i, hpl, rfl⟩
      have HBX4 := Lib.hid hb4
      have HB4 := Lib.hid (HB3.out.trans (hb4.mono HB3.out.size))
      have H4 := Lib.hid (H3.out.below (hb4.mono HBB3.out))
      have HG4 := Lib.hid (HG3.out.below hb4)
      have HBB4 := Lib.hid (Nat.le_trans HBB3.out hb4.size)
      have HP4 := Lib.hid (HP3.out.below hb4 HP3.out.lt)
      have HR4 := Lib.hid (HR3.out.below hb4 HR3.out.lt)
      have u0 : w4.cell? ⟨gp, 0, none⟩ = some (.int .i64 a) := HP4.out.cell 0
      have u1 : w4.cell? ⟨gp, 1, none⟩ = some (.slice A l.length c) := HP4.out.cell 1
      have HPL := Lib.hid hpl
      obtain ⟨ok, hok⟩ : ∃ b, isAt l n i = b := ⟨_, rfl⟩
      have HOK := Lib.hid hok
      rw [hok]
      clear hb4 hpl hok q0 q1
      go_wp2_with (go_at_call 40; refine (refuse_calls (beginS a l q n 1) _ 0 w4 HG4.out HZ.out (HV.out.below HBX4.out)).mono ?_; rintro e wx ⟨rfl, hbx⟩; have hrx := HR4.out.below hbx HR4.out.lt; have HRX := Lib.hid hrx; have HBX := Lib.hid (HB4.out.trans (hbx.mono HB4.out.size)); have m0 : wx.cell? ⟨gr, 0, none⟩ = some (.int .i64 0) := hrx.cell 0; have m1 : wx.cell? ⟨gr, 1, none⟩ = some (.slice none 0 0) := hrx.cell 1; have z0 := hrx.frozen 0; have z1 := hrx.frozen 1; have s0 := setCell_same (v := .int .i64 0) (i := 0) hrx rfl; have s1 := setCell_same (v := .slice none 0 0) (i := 1) hrx rfl; unfold zeroP; clear hbx hrx)
      exact ⟨rfl, _, results_cell_tmp Tryd.results28 rfl [.int .i64 0, .slice none 0 0] HRX.out Tryd.underlying24 rfl Tryd.sizeP, by rw [HCR.out]; exact resBad HBX.out⟩
    · clear hne
      go_wp2_with (fail)
      refine (find_calls a l A c B n w3 H3.out.r HBB3.out (by have := H3.out.len; omega)).mono ?_
      rintro e w4 ⟨hb4, i, hpl, rfl⟩
      have HBX4 := Lib.hid hb4
      have HB4 := Lib.hid (HB3.out.trans (hb4.mono HB3.out.size))
      have H4 := Lib.hid (H3.out.below (hb4.mono HBB3.out))
      have HG4 := Lib.hid (HG3.out.below hb4)
      have HBB4 := Lib.hid (Nat.le_trans HBB3.out hb4.size)
      have HP4 := Lib.hid (HP3.out.below hb4 HP3.out.lt)
      have HR4 := Lib.hid (HR3.out.below hb4 HR3.out.lt)
      have u0 : w4.cell? ⟨gp, 0, none⟩ = some (.int .i64 a) := HP4.out.cell 0
      have u1 : w4.cell? ⟨gp, 1, none⟩ = some (.slice A l.length c) := HP4.out.cell 1
      have HPL := Lib.hid hpl
      obtain ⟨ok, hok⟩ : ∃ b, isAt l n i = b := ⟨_, rfl⟩
      have HOK := Lib.hid hok
      rw [hok]
      clear hb4 hpl hok q0 q1
      go_wp2_with (go_at_call 40; refine (refuse_calls (beginS a l q n 1) _ 0 w4 HG4.out HZ.out (HV.out.below HBX4.out)).mono ?_; rintro e wx ⟨rfl, hbx⟩; have hrx := HR4.out.below hbx HR4.out.lt; have HRX := Lib.hid hrx; have HBX := Lib.hid (HB4.out.trans (hbx.mono HB4.out.size)); have m0 : wx.cell? ⟨gr, 0, none⟩ = some (.int .i64 0) := hrx.cell 0; have m1 : wx.cell? ⟨gr, 1, none⟩ = some (.slice none 0 0) := hrx.cell 1; have z0 := hrx.frozen 0; have z1 := hrx.frozen 1; have s0 := setCell_same (v := .int .i64 0) (i := 0) hrx rfl; have s1 := setCell_same (v := .slice none 0 0) (i := 1) hrx rfl; unfold zeroP; clear hbx hrx)
      exact ⟨rfl, _, results_cell_tmp Tryd.results28 rfl [.int .i64 0, .slice none 0 0] HRX.out Tryd.underlying24 rfl Tryd.sizeP, by rw [HCR.out]; exact resBad HBX.out⟩

set_option maxRecDepth 100000 in
set_option maxHeartbeats 4000000 in
theorem unmark_calls (a : Int) (l : List Mk) (A : Option Addr) (c B : Nat) (q n : Int) (w : World) (h : PosOK w B a l A) (hB : B ≤ w.heap.size) (hG : HG w) (hq : q ≤ 9223372036854775807) :
    Calls Tryd.prog 29 #[.agg #[.int .i64 a, .slice A l.length c], .int .i64 q, .int .i64 n] w (ResTo w (unmarkS a l q n)) := by
  obtain ⟨gp, hgp⟩ : ∃ g, w.heap.size = g := ⟨_, rfl⟩
  obtain ⟨W1, hW1⟩ : ∃ W, w.alloc (.cells #[.int .i64 a, .slice A l.length c] 24) = W := ⟨_, rfl⟩
  obtain ⟨W2, hW2⟩ : ∃ W, W1.alloc (.cells #[.int .i64 0, .slice none 0 0] 24) = W := ⟨_, rfl⟩
  obtain ⟨gr, hgr⟩ : ∃ g, W1.heap.size = g := ⟨_, rfl⟩
  have hb1 : Below w.heap.size w W1 := hW1 ▸ (Below.refl _ _).alloc (Nat.le_refl _) _
  have hb2 : Below w.heap.size w W2 := hW2 ▸ hb1.alloc hb1.size _
  have hp : Blk W2 gp 24 #[.int .i64 a, .slice A l.length c] := by rw [← hW2, ← hW1]; exact (blkNew hgp).alloc _
  have hr : Blk W2 gr 24 #[.int .i64 0, .slice none 0 0] := by rw [← hW2]; exact blkNew hgr
  have hgr2 : gr = gp + 1 := by rw [← hgr, ← hW1]; simp [hgp]
  have hge : w.heap.size ≤ gr := by omega
  have H := Lib.hid (h.below (hb2.mono hB))
  have HGG := Lib.hid (hG.below hb2)
  have HBB := Lib.hid (Nat.le_trans hB hb2.size)
  have HB2 := Lib.hid hb2
  have HP := Lib.hid hp
  have HR := Lib.hid hr
  have HGE := Lib.hid hge
  have p0 : W2.cell? ⟨gp, 0, none⟩ = some (.int .i64 a) := hp.cell 0
  have p1 : W2.cell? ⟨gp, 1, none⟩ = some (.slice A l.length c) := hp.cell 1
  clear h hb1 hb2 hp hr hB hgr2 hge hG
  go_enter Tryd.func29, Tryd.ntmps29
  go_wp2_with (fail)
  refine (begin_calls a l A c B q n 1 W2 H.out HBB.out).mono ?_
  rintro e w3 ⟨hb3, v, rfl, hv⟩
  have HB3 := Lib.hid (HB2.out.trans (hb3.mono HB2.out.size))
  have H3 := Lib.hid (H.out.below (hb3.mono HBB.out))
  have HG3 := Lib.hid (HGG.out.below hb3)
  have HBB3 := Lib.hid (Nat.le_trans HBB.out hb3.size)
  have HP3 := Lib.hid (HP.out.below hb3 HP.out.lt)
  have HR3 := Lib.hid (HR.out.below hb3 HR.out.lt)
  have q0 : w3.cell? ⟨gp, 0, none⟩ = some (.int .i64 a) := HP3.out.cell 0
  have q1 : w3.cell? ⟨gp, 1, none⟩ = some (.slice A l.length c) := HP3.out.cell 1
  by_cases hbz : (beginS a l q n 1).1 = 0
  · obtain ⟨hz1, hq1, hn0, hn1⟩ := begin_zero hbz
    have hr := right_of_check H.out.a1 hz1
    have ht1 := hr.sum
    have hv0 : v = .nilIface := by
      rcases hv with ⟨_, h⟩ | ⟨h, _⟩ | ⟨h, _⟩
      · exact h
      · exact absurd hbz h
      · exact absurd hbz h
    subst hv0
    rw [if_pos hbz]
    unfold MaxA at ht1
    obtain ⟨tt, htt⟩ : ∃ tt, totalS a l = tt := ⟨_, rfl⟩
    rw [htt]
    have HBZ := Lib.hid hbz
    have ha0 := hr.a0
    have ha1 := H.out.a1
    have hg0 := getQ_nonneg hr.q n
    have hg1 := getQ_le hr.q n
    have hs0 := sumQ_nonneg hr.q
    have hmk := right_marked hr n
    have hcv := right_cover hr n
    obtain ⟨gq, hgq⟩ : ∃ g, getQ l n = g := ⟨_, rfl⟩
    obtain ⟨sq, hsq⟩ : ∃ s, sumQ l = s := ⟨_, rfl⟩
    rw [hgq] at hg0 hg1 hmk hcv
    rw [hsq] at ht1 hg1 hs0
    have HRT := Lib.hid hr
    have HGQ := Lib.hid hgq
    have HMK := Lib.hid hmk
    have HCV := Lib.hid hcv
    have NUM : Hid (0 ≤ gq ∧ gq ≤ sq ∧ a + sq ≤ 9223372036854775807 ∧ 0 ≤ a ∧ 1 ≤ q ∧ q ≤ 9223372036854775807 ∧ 0 ≤ sq ∧ a ≤ 9223372036854775807) := ⟨hg0, hg1, ht1, ha0, hq1, hq, hs0, ha1⟩
    clear hb3 hv hz1 hr hbz p0 p1 hW1 hW2 hgr hgp htt hg1 hs0 hmk hcv hgq hsq ht1 hn0 hn1
    go_wp2_with (fail)
    refine (marked_calls a l A c B n w3 H3.out HBB3.out).mono ?_
    rintro e w4 ⟨rfl, hb4⟩
    rw [HMK.out]
    have HB4 := Lib.hid (HB3.out.trans (hb4.mono HB3.out.size))
    have H4 := Lib.hid (H3.out.below (hb4.mono HBB3.out))
    have HG4 := Lib.hid (HG3.out.below hb4)
    have HBB4 := Lib.hid (Nat.le_trans HBB3.out hb4.size)
    have HP4 := Lib.hid (HP3.out.below hb4 HP3.out.lt)
    have HR4 := Lib.hid (HR3.out.below hb4 HR3.out.lt)
    have r0 : w4.cell? ⟨gp, 0, none⟩ = some (.int .i64 a) := HP4.out.cell 0
    have r1 : w4.cell? ⟨gp, 1, none⟩ = some (.slice A l.length c) := HP4.out.cell 1
    clear hb4 q0 q1
    by_cases hz : gq = 0
    · have hcr : unmarkS a l q n = .bad (19, none) := by unfold unmarkS; rw [if_pos HBZ.out, HMK.out, if_pos hz]
      have HCR := Lib.hid hcr
      clear hcr
      subst hz
      go_wp2_with (go_at_call 40; refine (refuse_calls (19, none) _ w4.heap.size w4 HG4.out (by decide) (.inr (.inl ⟨by decide, rfl, rfl⟩))).mono ?_; rintro e wx ⟨rfl, hbx⟩; have hrx := HR4.out.below hbx HR4.out.lt; have HRX := Lib.hid hrx; have HBX := Lib.hid (HB4.out.trans (hbx.mono HB4.out.size)); have m0 : wx.cell? ⟨gr, 0, none⟩ = some (.int .i64 0) := hrx.cell 0; have m1 : wx.cell? ⟨gr, 1, none⟩ = some (.slice none 0 0) := hrx.cell 1; have z0 := hrx.frozen 0; have z1 := hrx.frozen 1; have s0 := setCell_same (v := .int .i64 0) (i := 0) hrx rfl; have s1 := setCell_same (v := .slice none 0 0) (i := 1) hrx rfl; unfold zeroP; clear hbx hrx)
      exact ⟨rfl, _, results_cell_tmp Tryd.results29 rfl [.int .i64 0, .slice none 0 0] HRX.out Tryd.underlying24 rfl Tryd.sizeP, by rw [HCR.out]; exact resBad HBX.out⟩
    · have hgz : (gq == 0) = false := by simpa using hz
      by_cases hc : gq < q
      · have hcr : unmarkS a l q n = .bad (18, none) := by unfold unmarkS; rw [if_pos HBZ.out, HMK.out, if_neg hz, if_pos hc]
        have HCR := Lib.hid hcr
        clear hcr
        go_wp2_with (go_at_call 40; refine (refuse_calls (18, none) _ w4.heap.size w4 HG4.out (by decide) (.inr (.inl ⟨by decide, rfl, rfl⟩))).mono ?_; rintro e wx ⟨rfl, hbx⟩; have hrx := HR4.out.below hbx HR4.out.lt; have HRX := Lib.hid hrx; have HBX := Lib.hid (HB4.out.trans (hbx.mono HB4.out.size)); have m0 : wx.cell? ⟨gr, 0, none⟩ = some (.int .i64 0) := hrx.cell 0; have m1 : wx.cell? ⟨gr, 1, none⟩ = some (.slice none 0 0) := hrx.cell 1; have z0 := hrx.frozen 0; have z1 := hrx.frozen 1; have s0 := setCell_same (v := .int .i64 0) (i := 0) hrx rfl; have s1 := setCell_same (v := .slice none 0 0) (i := 1) hrx rfl; unfold zeroP; clear hbx hrx)
        exact ⟨rfl, _, results_cell_tmp Tryd.results29 rfl [.int .i64 0, .slice none 0 0] HRX.out Tryd.underlying24 rfl Tryd.sizeP, by rw [HCR.out]; exact resBad HBX.out⟩
      · have HC := Lib.hid hc
        have hcr : unmarkS a l q n = ⟨0, none, a + q, setQ l n (getQ l n - q)⟩ := by unfold unmarkS; rw [if_pos HBZ.out, HMK.out, if_neg hz, if_neg hc]
        obtain ⟨a1, ha1⟩ : ∃ x, a + q = x := ⟨_, rfl⟩
        obtain ⟨L, hL⟩ : ∃ x, setQ l n (getQ l n - q) = x := ⟨_, rfl⟩
        rw [ha1, hL] at hcr
        have HCR := Lib.hid hcr
        have HAE : Hid (a + q = a1) := ha1
        have HLE : Hid (setQ l n (getQ l n + -q) = L) := hL
        have HRA : Hid (-9223372036854775808 ≤ a1 ∧ a1 ≤ 9223372036854775807) := by have := NUM.out; have := HC.out; exact ⟨by omega, by omega⟩
        have HGM : Hid (-9223372036854775808 ≤ getQ l n + -q ∧ getQ l n + -q ≤ 9223372036854775807) := by have := NUM.out; have := HGQ.out; have := HC.out; exact ⟨by omega, by omega⟩
        have hw1 : IntKind.i64.wrap (-q) = -q := IntWalk.i64_in _ (by have := NUM.out; omega)
        clear hcr ha1 hL hg0 ha0 hq1
        go_wp2_with (go_at_call 45; refine (markTo_calls a l A c B q n (-q) a1 L w4 H4.out HBB4.out HRT.out HRA.out HAE.out HLE.out HGM.out).mono ?_; rintro e wx ⟨AX, cx, rfl, hmx, hbx⟩; have hrx := HR4.out.below hbx HR4.out.lt; have HRX := Lib.hid hrx; have HMX := Lib.hid (hmx.base HB4.out.size); have HBX := Lib.hid (HB4.out.trans (hbx.mono HB4.out.size)); have m0 : wx.cell? ⟨gr, 0, none⟩ = some (.int .i64 0) := hrx.cell 0; have m1 : wx.cell? ⟨gr, 1, none⟩ = some (.slice none 0 0) := hrx.cell 1; have z0 := hrx.frozen 0; have z1 := hrx.frozen 1; clear hbx hrx hmx)
        have hrr := (HRX.out.set_ 0 (.int .i64 a1)).set_ 1 (.slice AX L.length cx)
        refine ⟨rfl, _, results_cell_tmp Tryd.results29 rfl [.int .i64 a1, .slice AX L.length cx] hrr Tryd.underlying24 rfl Tryd.sizeP, ?_⟩
        rw [HCR.out]
        exact ⟨(HBX.out.setCell (p := ⟨gr, 0, none⟩) HGE.out _).setCell (p := ⟨gr, 1, none⟩) HGE.out _, _, rfl, (HMX.out.far HRX.out _ _).far (HRX.out.set_ 0 _) _ _⟩
  · have hcr : unmarkS a l q n = .bad (beginS a l q n 1) := by unfold unmarkS; rw [if_neg hbz]
    have HCR := Lib.hid hcr
    have HZ := Lib.hid hbz
    have HV := Lib.hid (hv.mono_b (Nat.zero_le _))
    rw [if_neg hbz]
    have hne : v ≠ .nilIface := by
      rcases hv with ⟨h, _⟩ | ⟨_, _, rfl⟩ | ⟨_, _, _, _, _, rfl, _⟩
      · exact absurd h hbz
      · simp
      · simp
    clear hcr hbz hb3 p0 p1 hW1 hW2 hgr hgp
    rcases hv with ⟨h, _⟩ | ⟨_, _, rfl⟩ | ⟨_, _, _, g, _, rfl, _⟩
    · exact absurd h HZ.out
    · clear hne
      go_wp2_with (go_at_call 40; refine (refuse_calls (beginS a l q n 1) _ 0 w3 HG3.out HZ.out HV.out).mono ?_; rintro e wx ⟨rfl, hbx⟩; have hrx := HR3.out.below hbx HR3.out.lt; have HRX := Lib.hid hrx; have HBX := Lib.hid (HB3.out.trans (hbx.mono HB3.out.size)); have m0 : wx.cell? ⟨gr, 0, none⟩ = some (.int .i64 0) := hrx.cell 0; have m1 : wx.cell? ⟨gr, 1, none⟩ = some (.slice none 0 0) := hrx.cell 1; have z0 := hrx.frozen 0; have z1 := hrx.frozen 1; have s0 := setCell_same (v := .int .i64 0) (i := 0) hrx rfl; have s1 := setCell_same (v := .slice none 0 0) (i := 1) hrx rfl; unfold zeroP; clear hbx hrx)
      exact ⟨rfl, _, results_cell_tmp Tryd.results29 rfl [.int .i64 0, .slice none 0 0] HRX.out Tryd.underlying24 rfl Tryd.sizeP, by rw [HCR.out]; exact resBad HBX.out⟩
    · clear hne
      go_wp2_with (go_at_call 40; refine (refuse_calls (beginS a l q n 1) _ 0 w3 HG3.out HZ.out HV.out).mono ?_; rintro e wx ⟨rfl, hbx⟩; have hrx := HR3.out.below hbx HR3.out.lt; have HRX := Lib.hid hrx; have HBX := Lib.hid (HB3.out.trans (hbx.mono HB3.out.size)); have m0 : wx.cell? ⟨gr, 0, none⟩ = some (.int .i64 0) := hrx.cell 0; have m1 : wx.cell? ⟨gr, 1, none⟩ = some (.slice none 0 0) := hrx.cell 1; have z0 := hrx.frozen 0; have z1 := hrx.frozen 1; have s0 := setCell_same (v := .int .i64 0) (i := 0) hrx rfl; have s1 := setCell_same (v := .slice none 0 0) (i := 1) hrx rfl; unfold zeroP; clear hbx hrx)
      exact ⟨rfl, _, results_cell_tmp Tryd.results29 rfl [.int .i64 0, .slice none 0 0] HRX.out Tryd.underlying24 rfl Tryd.sizeP, by rw [HCR.out]; exact resBad HBX.out⟩
end Go.Proofs.YtcgcgekefhhjhaaDoor
