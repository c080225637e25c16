/- custodyref14's Credit, Debit, Mark, Unmark by contracts (printed by gen_refs14.py). -/
import Derived.Test.YtcgcgekefhhjhaaDoorRefM14
namespace Go.Proofs.YtcgcgekefhhjhaaDoor
set_option linter.unusedSimpArgs false
set_option linter.unusedVariables false
open Go.RowKit

/-- What a call of the document answers. -/
def RefTo (w : World) (r : Res) (e : Ending) (w' : World) : Prop :=
  Below w.heap.size w w' ∧ ∃ A' c', e = .returned (.tuple #[.agg #[.int .i64 r.a, .slice A' r.l.length c'], .int .i64 r.e]) ∧ OwnM w' w.heap.size (.slice A' r.l.length c') r.l
theorem refBad {w w' : World} {b : Int × Option Int} (hb : Below w.heap.size w w') : RefTo w (.bad b) (.returned (.tuple #[zeroP, .int .i64 b.1])) w' :=
  ⟨hb, none, 0, rfl, OwnM.nil _ _⟩

set_option maxRecDepth 100000 in
set_option maxHeartbeats 4000000 in
theorem rdebit_calls (a : Int) (l : List Mk) (A : Option Addr) (c B : Nat) (q n : Int) (w : World) (h : PosOK w B a l A) (hB : B ≤ w.heap.size) (hG : HG w) (hq : q ≤ 9223372036854775807) :
    Calls Tryd.prog 47 #[.agg #[.int .i64 a, .slice A l.length c], .int .i64 q, .int .i64 n] w (RefTo w (debitS a l q n)) := by
  obtain ⟨gp, hgp⟩ : ∃ g, w.heap.size = g := ⟨_, rfl⟩
  obtain ⟨W1, hW1⟩ : ∃ W, w.alloc (.cells #[.int .i64 a, .slice A l.length c] 24) = W := ⟨_, rfl⟩
  obtain ⟨W2, hW2⟩ : ∃ W, W1.alloc (.cells #[.int .i64 0, .slice none 0 0] 24) = W := ⟨_, rfl⟩
  obtain ⟨gr, hgr⟩ : ∃ g, W1.heap.size = g := ⟨_, rfl⟩
  have hb1 : Below w.heap.size w W1 := hW1 ▸ (Below.refl _ _).alloc (Nat.le_refl _) _
  have hb2 : Below w.heap.size w W2 := hW2 ▸ hb1.alloc hb1.size _
  have hp : Blk W2 gp 24 #[.int .i64 a, .slice A l.length c] := by rw [← hW2, ← hW1]; exact (blkNew hgp).alloc _
  have hr : Blk W2 gr 24 #[.int .i64 0, .slice none 0 0] := by rw [← hW2]; exact blkNew hgr
  have hgr2 : gr = gp + 1 := by rw [← hgr, ← hW1]; simp [hgp]
  have hge : w.heap.size ≤ gr := by omega
  have H := Lib.hid (h.below (hb2.mono hB))
  have HGG := Lib.hid (hG.below hb2)
  have HBB := Lib.hid (Nat.le_trans hB hb2.size)
  have HB2 := Lib.hid hb2
  have HP := Lib.hid hp
  have HR := Lib.hid hr
  have HGE := Lib.hid hge
  have p0 : W2.cell? ⟨gp, 0, none⟩ = some (.int .i64 a) := hp.cell 0
  have p1 : W2.cell? ⟨gp, 1, none⟩ = some (.slice A l.length c) := hp.cell 1
  clear h hb1 hb2 hp hr hB hgr2 hge hG
  go_enter Tryd.func47, Tryd.ntmps47
  go_wp2_with (fail)
  refine (rcheck_calls a l A c B W2 H.out HBB.out).mono ?_
  rintro e w3 ⟨rfl, hb3⟩
  have HB3 := Lib.hid (HB2.out.trans (hb3.mono HB2.out.size))
  have H3 := Lib.hid (H.out.below (hb3.mono HBB.out))
  have HG3 := Lib.hid (HGG.out.below hb3)
  have HBB3 := Lib.hid (Nat.le_trans HBB.out hb3.size)
  have HP3 := Lib.hid (HP.out.below hb3 HP.out.lt)
  have HR3 := Lib.hid (HR.out.below hb3 HR.out.lt)
  have q0 : w3.cell? ⟨gp, 0, none⟩ = some (.int .i64 a) := HP3.out.cell 0
  have q1 : w3.cell? ⟨gp, 1, none⟩ = some (.slice A l.length c) := HP3.out.cell 1
  clear hb3 p0 p1 hW1 hW2 hgr hgp
  by_cases h0 : (posCheck a l).1 = 0
  · have hr := right_of_check H.out.a1 h0
    rw [check_of_right hr]
    have HH0 := Lib.hid h0
    have ht1 := hr.sum
    unfold MaxA at ht1
    have ha0 := hr.a0
    have ha1 := H.out.a1
    have hs0 := sumQ_nonneg hr.q
    have HRT := Lib.hid hr
    have hg0 := getQ_nonneg hr.q n
    have hg1 := getQ_le hr.q n
    have hmk := right_marked hr n
    have hcv := right_cover hr n
    obtain ⟨gq, hgq⟩ : ∃ g, getQ l n = g := ⟨_, rfl⟩
    obtain ⟨sq, hsq⟩ : ∃ s, sumQ l = s := ⟨_, rfl⟩
    rw [hgq] at hg0 hg1 hmk hcv
    rw [hsq] at ht1 hg1 hs0
    have HGQ := Lib.hid hgq
    have HMK := Lib.hid hmk
    have HCV := Lib.hid hcv
    have NUM : Hid (0 ≤ gq ∧ gq ≤ sq ∧ a + sq ≤ 9223372036854775807 ∧ 0 ≤ a ∧ q ≤ 9223372036854775807 ∧ 0 ≤ sq ∧ a ≤ 9223372036854775807) := ⟨hg0, hg1, ht1, ha0, hq, hs0, ha1⟩
    clear hr h0 hg1 hs0 hmk hcv hgq hsq ht1
    by_cases hq1 : q < 1
    · have hcr : debitS a l q n = .bad (16, none) := by
        have hb : beginS a l q n 0 = (16, none) := by unfold beginS; rw [if_pos HH0.out, if_pos hq1]
        unfold debitS
        rw [hb, if_neg (by decide)]
      have HCR := Lib.hid hcr
      clear hcr
      have m0 : w3.cell? ⟨gr, 0, none⟩ = some (.int .i64 0) := HR3.out.cell 0
      have m1 : w3.cell? ⟨gr, 1, none⟩ = some (.slice none 0 0) := HR3.out.cell 1
      have z0 := HR3.out.frozen 0
      have z1 := HR3.out.frozen 1
      have s0 := setCell_same (v := .int .i64 0) (i := 0) HR3.out rfl
      have s1 := setCell_same (v := .slice none 0 0) (i := 1) HR3.out rfl
      go_wp2_with (fail)
      exact ⟨rfl, _, results_cell_tmp Tryd.results47 rfl [.int .i64 0, .slice none 0 0] HR3.out Tryd.underlying24 rfl Tryd.sizeP, by rw [HCR.out]; exact refBad HB3.out⟩
    · have hq1' : 1 ≤ q := by omega
      by_cases hn1 : n < 0
      · have hcr : debitS a l q n = .bad (19, none) := by
          have hb : beginS a l q n 0 = (19, none) := by unfold beginS; rw [if_pos HH0.out, if_neg (show ¬ q < 1 by omega), if_pos (.inl hn1)]
          unfold debitS
          rw [hb, if_neg (by decide)]
        have HCR := Lib.hid hcr
        clear hcr
        have m0 : w3.cell? ⟨gr, 0, none⟩ = some (.int .i64 0) := HR3.out.cell 0
        have m1 : w3.cell? ⟨gr, 1, none⟩ = some (.slice none 0 0) := HR3.out.cell 1
        have z0 := HR3.out.frozen 0
        have z1 := HR3.out.frozen 1
        have s0 := setCell_same (v := .int .i64 0) (i := 0) HR3.out rfl
        have s1 := setCell_same (v := .slice none 0 0) (i := 1) HR3.out rfl
        go_wp2_with (fail)
        exact ⟨rfl, _, results_cell_tmp Tryd.results47 rfl [.int .i64 0, .slice none 0 0] HR3.out Tryd.underlying24 rfl Tryd.sizeP, by rw [HCR.out]; exact refBad HB3.out⟩
      · by_cases hn2 : 65536 < n
        · have hcr : debitS a l q n = .bad (19, none) := by
            have hb : beginS a l q n 0 = (19, none) := by unfold beginS; rw [if_pos HH0.out, if_neg (show ¬ q < 1 by omega), if_pos (.inr hn2)]
            unfold debitS
            rw [hb, if_neg (by decide)]
          have HCR := Lib.hid hcr
          clear hcr
          have m0 : w3.cell? ⟨gr, 0, none⟩ = some (.int .i64 0) := HR3.out.cell 0
          have m1 : w3.cell? ⟨gr, 1, none⟩ = some (.slice none 0 0) := HR3.out.cell 1
          have z0 := HR3.out.frozen 0
          have z1 := HR3.out.frozen 1
          have s0 := setCell_same (v := .int .i64 0) (i := 0) HR3.out rfl
          have s1 := setCell_same (v := .slice none 0 0) (i := 1) HR3.out rfl
          go_wp2_with (fail)
          exact ⟨rfl, _, results_cell_tmp Tryd.results47 rfl [.int .i64 0, .slice none 0 0] HR3.out Tryd.underlying24 rfl Tryd.sizeP, by rw [HCR.out]; exact refBad HB3.out⟩
        · have HBG := Lib.hid (begin_ok (least := 0) HH0.out hq1' (show 0 ≤ n by omega) (show n ≤ 65536 by omega))
          go_wp2_with (fail)
          refine (rcover_calls a l A c B n w3 H3.out HBB3.out).mono ?_
          rintro e w4 ⟨rfl, hb4⟩
          rw [HCV.out]
          have HB4 := Lib.hid (HB3.out.trans (hb4.mono HB3.out.size))
          have H4 := Lib.hid (H3.out.below (hb4.mono HBB3.out))
          have HG4 := Lib.hid (HG3.out.below hb4)
          have HBB4 := Lib.hid (Nat.le_trans HBB3.out hb4.size)
          have HP4 := Lib.hid (HP3.out.below hb4 HP3.out.lt)
          have HR4 := Lib.hid (HR3.out.below hb4 HR3.out.lt)
          have r0 : w4.cell? ⟨gp, 0, none⟩ = some (.int .i64 a) := HP4.out.cell 0
          have r1 : w4.cell? ⟨gp, 1, none⟩ = some (.slice A l.length c) := HP4.out.cell 1
          clear hb4 q0 q1 hn1 hn2
          by_cases hc : a + gq < q
          · have hcr : debitS a l q n = .bad (18, none) := by unfold debitS; rw [HBG.out, if_pos rfl, HCV.out, if_pos hc]
            have HCR := Lib.hid hcr
            clear hcr
            have m0 : w4.cell? ⟨gr, 0, none⟩ = some (.int .i64 0) := HR4.out.cell 0
            have m1 : w4.cell? ⟨gr, 1, none⟩ = some (.slice none 0 0) := HR4.out.cell 1
            have z0 := HR4.out.frozen 0
            have z1 := HR4.out.frozen 1
            have s0 := setCell_same (v := .int .i64 0) (i := 0) HR4.out rfl
            have s1 := setCell_same (v := .slice none 0 0) (i := 1) HR4.out rfl
            go_wp2_with (fail)
            exact ⟨rfl, _, results_cell_tmp Tryd.results47 rfl [.int .i64 0, .slice none 0 0] HR4.out Tryd.underlying24 rfl Tryd.sizeP, by rw [HCR.out]; exact refBad HB4.out⟩
          · have HC := Lib.hid hc
            go_wp2_with (fail)
            refine (rmarked_calls a l A c B n w4 H4.out HBB4.out).mono ?_
            rintro e w5 ⟨rfl, hb5⟩
            rw [HMK.out]
            have HB5 := Lib.hid (HB4.out.trans (hb5.mono HB4.out.size))
            have H5 := Lib.hid (H4.out.below (hb5.mono HBB4.out))
            have HG5 := Lib.hid (HG4.out.below hb5)
            have HBB5 := Lib.hid (Nat.le_trans HBB4.out hb5.size)
            have HP5 := Lib.hid (HP4.out.below hb5 HP4.out.lt)
            have HR5 := Lib.hid (HR4.out.below hb5 HR4.out.lt)
            have s0 : w5.cell? ⟨gp, 0, none⟩ = some (.int .i64 a) := HP5.out.cell 0
            have s1 : w5.cell? ⟨gp, 1, none⟩ = some (.slice A l.length c) := HP5.out.cell 1
            clear hb5 r0 r1
            by_cases hlt : q ≤ gq
            · obtain ⟨L, hL⟩ : ∃ x, setQ l n (gq - q) = x := ⟨_, rfl⟩
              have hcr : debitS a l q n = ⟨0, none, a, L⟩ := by
                unfold debitS
                rw [HBG.out, if_pos rfl, HCV.out, if_neg (show ¬ a + gq < q by have := HC.out; omega), HGQ.out, show min gq q = q from by omega, hL, show a + q - q = a by omega]
              have HCR := Lib.hid hcr
              have HLE := Lib.hid hL
              have hw1 : IntKind.i64.wrap (gq - q) = gq - q := IntWalk.i64_in _ (by have := NUM.out; omega)
              clear hcr hL hc hg0 ha0
              go_wp2_with (go_at_call 66; refine (with_calls a l A c B a n (gq - q) w5 H5.out HBB5.out (by have := HRT.out.len; omega)).mono ?_; rintro e wx ⟨AX, cx, rfl, hmx, hbx⟩; rw [withL_setQ HRT.out.up, HLE.out] at hmx; rw [withL_setQ HRT.out.up, HLE.out]; have hrx := HR5.out.below hbx HR5.out.lt; have HRX := Lib.hid hrx; have HMX := Lib.hid (hmx.base HB5.out.size); have HBX := Lib.hid (HB5.out.trans (hbx.mono HB5.out.size)); have m0 : wx.cell? ⟨gr, 0, none⟩ = some (.int .i64 0) := hrx.cell 0; have m1 : wx.cell? ⟨gr, 1, none⟩ = some (.slice none 0 0) := hrx.cell 1; have z0 := hrx.frozen 0; have z1 := hrx.frozen 1; clear hbx hrx hmx)
              have hrr := (HRX.out.set_ 0 (.int .i64 a)).set_ 1 (.slice AX L.length cx)
              refine ⟨rfl, _, results_cell_tmp Tryd.results47 rfl [.int .i64 a, .slice AX L.length cx] hrr Tryd.underlying24 rfl Tryd.sizeP, ?_⟩
              rw [HCR.out]
              exact ⟨(HBX.out.setCell (p := ⟨gr, 0, none⟩) HGE.out _).setCell (p := ⟨gr, 1, none⟩) HGE.out _, _, _, rfl, (HMX.out.far HRX.out _ _).far (HRX.out.set_ 0 _) _ _⟩
            · obtain ⟨L, hL⟩ : ∃ x, setQ l n 0 = x := ⟨_, rfl⟩
              obtain ⟨a1, ha2⟩ : ∃ x, a - (q - gq) = x := ⟨_, rfl⟩
              have hcr : debitS a l q n = ⟨0, none, a1, L⟩ := by
                unfold debitS
                rw [HBG.out, if_pos rfl, HCV.out, if_neg (show ¬ a + gq < q by have := HC.out; omega), HGQ.out, show min gq q = gq from by omega, show gq - gq = 0 by omega, hL, ← ha2, show a + gq - q = a - (q - gq) by omega]
              have HCR := Lib.hid hcr
              have HLE := Lib.hid hL
              have hw1 : IntKind.i64.wrap (q - gq) = q - gq := IntWalk.i64_in _ (by have := NUM.out; omega)
              have hw2 : IntKind.i64.wrap (a - (q - gq)) = a1 := (IntWalk.i64_in _ (by have := NUM.out; have := HC.out; omega)).trans ha2
              clear hcr hL hc hg0 ha0 ha2
              go_wp2_with (go_at_call 66; refine (with_calls a l A c B a1 n 0 w5 H5.out HBB5.out (by have := HRT.out.len; omega)).mono ?_; rintro e wx ⟨AX, cx, rfl, hmx, hbx⟩; rw [withL_setQ HRT.out.up, HLE.out] at hmx; rw [withL_setQ HRT.out.up, HLE.out]; have hrx := HR5.out.below hbx HR5.out.lt; have HRX := Lib.hid hrx; have HMX := Lib.hid (hmx.base HB5.out.size); have HBX := Lib.hid (HB5.out.trans (hbx.mono HB5.out.size)); have m0 : wx.cell? ⟨gr, 0, none⟩ = some (.int .i64 0) := hrx.cell 0; have m1 : wx.cell? ⟨gr, 1, none⟩ = some (.slice none 0 0) := hrx.cell 1; have z0 := hrx.frozen 0; have z1 := hrx.frozen 1; clear hbx hrx hmx)
              have hrr := (HRX.out.set_ 0 (.int .i64 a1)).set_ 1 (.slice AX L.length cx)
              refine ⟨rfl, _, results_cell_tmp Tryd.results47 rfl [.int .i64 a1, .slice AX L.length cx] hrr Tryd.underlying24 rfl Tryd.sizeP, ?_⟩
              rw [HCR.out]
              exact ⟨(HBX.out.setCell (p := ⟨gr, 0, none⟩) HGE.out _).setCell (p := ⟨gr, 1, none⟩) HGE.out _, _, _, rfl, (HMX.out.far HRX.out _ _).far (HRX.out.set_ 0 _) _ _⟩
  · have hcr : debitS a l q n = .bad ((posCheck a l).1, some (posCheck a l).2) := by
      have hb : beginS a l q n 0 = ((posCheck a l).1, some (posCheck a l).2) := by unfold beginS; rw [if_neg h0]
      unfold debitS
      rw [hb, if_neg h0]
    obtain ⟨no, hno⟩ : ∃ x, (posCheck a l).1 = x := ⟨_, rfl⟩
    obtain ⟨pl, hpl⟩ : ∃ x, (posCheck a l).2 = x := ⟨_, rfl⟩
    rw [hno, hpl] at hcr
    rw [hno] at h0 ⊢
    rw [hpl]
    have HCR := Lib.hid hcr
    clear hcr hno hpl
    have m0 : w3.cell? ⟨gr, 0, none⟩ = some (.int .i64 0) := HR3.out.cell 0
    have m1 : w3.cell? ⟨gr, 1, none⟩ = some (.slice none 0 0) := HR3.out.cell 1
    have z0 := HR3.out.frozen 0
    have z1 := HR3.out.frozen 1
    have s0 := setCell_same (v := .int .i64 0) (i := 0) HR3.out rfl
    have s1 := setCell_same (v := .slice none 0 0) (i := 1) HR3.out rfl
    go_wp2_with (fail)
    exact ⟨rfl, _, results_cell_tmp Tryd.results47 rfl [.int .i64 0, .slice none 0 0] HR3.out Tryd.underlying24 rfl Tryd.sizeP, by rw [HCR.out]; exact refBad HB3.out⟩

set_option maxRecDepth 100000 in
set_option maxHeartbeats 4000000 in
theorem rmark_calls (a : Int) (l : List Mk) (A : Option Addr) (c B : Nat) (q n : Int) (w : World) (h : PosOK w B a l A) (hB : B ≤ w.heap.size) (hG : HG w) (hq : q ≤ 9223372036854775807) :
    Calls Tryd.prog 48 #[.agg #[.int .i64 a, .slice A l.length c], .int .i64 q, .int .i64 n] w (RefTo w (markS a l q n)) := by
  obtain ⟨gp, hgp⟩ : ∃ g, w.heap.size = g := ⟨_, rfl⟩
  obtain ⟨W1, hW1⟩ : ∃ W, w.alloc (.cells #[.int .i64 a, .slice A l.length c] 24) = W := ⟨_, rfl⟩
  obtain ⟨W2, hW2⟩ : ∃ W, W1.alloc (.cells #[.int .i64 0, .slice none 0 0] 24) = W := ⟨_, rfl⟩
  obtain ⟨gr, hgr⟩ : ∃ g, W1.heap.size = g := ⟨_, rfl⟩
  have hb1 : Below w.heap.size w W1 := hW1 ▸ (Below.refl _ _).alloc (Nat.le_refl _) _
  have hb2 : Below w.heap.size w W2 := hW2 ▸ hb1.alloc hb1.size _
  have hp : Blk W2 gp 24 #[.int .i64 a, .slice A l.length c] := by rw [← hW2, ← hW1]; exact (blkNew hgp).alloc _
  have hr : Blk W2 gr 24 #[.int .i64 0, .slice none 0 0] := by rw [← hW2]; exact blkNew hgr
  have hgr2 : gr = gp + 1 := by rw [← hgr, ← hW1]; simp [hgp]
  have hge : w.heap.size ≤ gr := by omega
  have H := Lib.hid (h.below (hb2.mono hB))
  have HGG := Lib.hid (hG.below hb2)
  have HBB := Lib.hid (Nat.le_trans hB hb2.size)
  have HB2 := Lib.hid hb2
  have HP := Lib.hid hp
  have HR := Lib.hid hr
  have HGE := Lib.hid hge
  have p0 : W2.cell? ⟨gp, 0, none⟩ = some (.int .i64 a) := hp.cell 0
  have p1 : W2.cell? ⟨gp, 1, none⟩ = some (.slice A l.length c) := hp.cell 1
  clear h hb1 hb2 hp hr hB hgr2 hge hG
  go_enter Tryd.func48, Tryd.ntmps48
  go_wp2_with (fail)
  refine (rcheck_calls a l A c B W2 H.out HBB.out).mono ?_
  rintro e w3 ⟨rfl, hb3⟩
  have HB3 := Lib.hid (HB2.out.trans (hb3.mono HB2.out.size))
  have H3 := Lib.hid (H.out.below (hb3.mono HBB.out))
  have HG3 := Lib.hid (HGG.out.below hb3)
  have HBB3 := Lib.hid (Nat.le_trans HBB.out hb3.size)
  have HP3 := Lib.hid (HP.out.below hb3 HP.out.lt)
  have HR3 := Lib.hid (HR.out.below hb3 HR.out.lt)
  have q0 : w3.cell? ⟨gp, 0, none⟩ = some (.int .i64 a) := HP3.out.cell 0
  have q1 : w3.cell? ⟨gp, 1, none⟩ = some (.slice A l.length c) := HP3.out.cell 1
  clear hb3 p0 p1 hW1 hW2 hgr hgp
  by_cases h0 : (posCheck a l).1 = 0
  · have hr := right_of_check H.out.a1 h0
    rw [check_of_right hr]
    have HH0 := Lib.hid h0
    have ht1 := hr.sum
    unfold MaxA at ht1
    have ha0 := hr.a0
    have ha1 := H.out.a1
    have hs0 := sumQ_nonneg hr.q
    have HRT := Lib.hid hr
    have hg0 := getQ_nonneg hr.q n
    have hg1 := getQ_le hr.q n
    have hmk := right_marked hr n
    have hcv := right_cover hr n
    obtain ⟨gq, hgq⟩ : ∃ g, getQ l n = g := ⟨_, rfl⟩
    obtain ⟨sq, hsq⟩ : ∃ s, sumQ l = s := ⟨_, rfl⟩
    rw [hgq] at hg0 hg1 hmk hcv
    rw [hsq] at ht1 hg1 hs0
    have HGQ := Lib.hid hgq
    have HMK := Lib.hid hmk
    have HCV := Lib.hid hcv
    have NUM : Hid (0 ≤ gq ∧ gq ≤ sq ∧ a + sq ≤ 9223372036854775807 ∧ 0 ≤ a ∧ q ≤ 9223372036854775807 ∧ 0 ≤ sq ∧ a ≤ 9223372036854775807) := ⟨hg0, hg1, ht1, ha0, hq, hs0, ha1⟩
    clear hr h0 hg1 hs0 hmk hcv hgq hsq ht1
    by_cases hq1 : q < 1
    · have hcr : markS a l q n = .bad (16, none) := by
        have hb : beginS a l q n 1 = (16, none) := by unfold beginS; rw [if_pos HH0.out, if_pos hq1]
        unfold markS
        rw [hb, if_neg (by decide)]
      have HCR := Lib.hid hcr
      clear hcr
      have m0 : w3.cell? ⟨gr, 0, none⟩ = some (.int .i64 0) := HR3.out.cell 0
      have m1 : w3.cell? ⟨gr, 1, none⟩ = some (.slice none 0 0) := HR3.out.cell 1
      have z0 := HR3.out.frozen 0
      have z1 := HR3.out.frozen 1
      have s0 := setCell_same (v := .int .i64 0) (i := 0) HR3.out rfl
      have s1 := setCell_same (v := .slice none 0 0) (i := 1) HR3.out rfl
      go_wp2_with (fail)
      exact ⟨rfl, _, results_cell_tmp Tryd.results48 rfl [.int .i64 0, .slice none 0 0] HR3.out Tryd.underlying24 rfl Tryd.sizeP, by rw [HCR.out]; exact refBad HB3.out⟩
    · have hq1' : 1 ≤ q := by omega
      by_cases hn1 : n < 1
      · have hcr : markS a l q n = .bad (19, none) := by
          have hb : beginS a l q n 1 = (19, none) := by unfold beginS; rw [if_pos HH0.out, if_neg (show ¬ q < 1 by omega), if_pos (.inl hn1)]
          unfold markS
          rw [hb, if_neg (by decide)]
        have HCR := Lib.hid hcr
        clear hcr
        have m0 : w3.cell? ⟨gr, 0, none⟩ = some (.int .i64 0) := HR3.out.cell 0
        have m1 : w3.cell? ⟨gr, 1, none⟩ = some (.slice none 0 0) := HR3.out.cell 1
        have z0 := HR3.out.frozen 0
        have z1 := HR3.out.frozen 1
        have s0 := setCell_same (v := .int .i64 0) (i := 0) HR3.out rfl
        have s1 := setCell_same (v := .slice none 0 0) (i := 1) HR3.out rfl
        go_wp2_with (fail)
        exact ⟨rfl, _, results_cell_tmp Tryd.results48 rfl [.int .i64 0, .slice none 0 0] HR3.out Tryd.underlying24 rfl Tryd.sizeP, by rw [HCR.out]; exact refBad HB3.out⟩
      · by_cases hn2 : 65536 < n
        · have hcr : markS a l q n = .bad (19, none) := by
            have hb : beginS a l q n 1 = (19, none) := by unfold beginS; rw [if_pos HH0.out, if_neg (show ¬ q < 1 by omega), if_pos (.inr hn2)]
            unfold markS
            rw [hb, if_neg (by decide)]
          have HCR := Lib.hid hcr
          clear hcr
          have m0 : w3.cell? ⟨gr, 0, none⟩ = some (.int .i64 0) := HR3.out.cell 0
          have m1 : w3.cell? ⟨gr, 1, none⟩ = some (.slice none 0 0) := HR3.out.cell 1
          have z0 := HR3.out.frozen 0
          have z1 := HR3.out.frozen 1
          have s0 := setCell_same (v := .int .i64 0) (i := 0) HR3.out rfl
          have s1 := setCell_same (v := .slice none 0 0) (i := 1) HR3.out rfl
          go_wp2_with (fail)
          exact ⟨rfl, _, results_cell_tmp Tryd.results48 rfl [.int .i64 0, .slice none 0 0] HR3.out Tryd.underlying24 rfl Tryd.sizeP, by rw [HCR.out]; exact refBad HB3.out⟩
        · have HBG := Lib.hid (begin_ok (least := 1) HH0.out hq1' (show 1 ≤ n by omega) (show n ≤ 65536 by omega))
          by_cases hc : a < q
          · have hcr : markS a l q n = .bad (18, none) := by unfold markS; rw [HBG.out, if_pos rfl, if_pos hc]
            have HCR := Lib.hid hcr
            clear hcr
            have m0 : w3.cell? ⟨gr, 0, none⟩ = some (.int .i64 0) := HR3.out.cell 0
            have m1 : w3.cell? ⟨gr, 1, none⟩ = some (.slice none 0 0) := HR3.out.cell 1
            have z0 := HR3.out.frozen 0
            have z1 := HR3.out.frozen 1
            have s0 := setCell_same (v := .int .i64 0) (i := 0) HR3.out rfl
            have s1 := setCell_same (v := .slice none 0 0) (i := 1) HR3.out rfl
            go_wp2_with (fail)
            exact ⟨rfl, _, results_cell_tmp Tryd.results48 rfl [.int .i64 0, .slice none 0 0] HR3.out Tryd.underlying24 rfl Tryd.sizeP, by rw [HCR.out]; exact refBad HB3.out⟩
          · have HC := Lib.hid hc
            go_wp2_with (fail)
            refine (rmarked_calls a l A c B n w3 H3.out HBB3.out).mono ?_
            rintro e w4 ⟨rfl, hb4⟩
            rw [HMK.out]
            have HB4 := Lib.hid (HB3.out.trans (hb4.mono HB3.out.size))
            have H4 := Lib.hid (H3.out.below (hb4.mono HBB3.out))
            have HG4 := Lib.hid (HG3.out.below hb4)
            have HBB4 := Lib.hid (Nat.le_trans HBB3.out hb4.size)
            have HP4 := Lib.hid (HP3.out.below hb4 HP3.out.lt)
            have HR4 := Lib.hid (HR3.out.below hb4 HR3.out.lt)
            have r0 : w4.cell? ⟨gp, 0, none⟩ = some (.int .i64 a) := HP4.out.cell 0
            have r1 : w4.cell? ⟨gp, 1, none⟩ = some (.slice A l.length c) := HP4.out.cell 1
            clear hb4 q0 q1
            have hgo : ∀ (hgd : ¬ (gq = 0 ∧ 8 ≤ l.length)), markS a l q n = ⟨0, none, a - q, setQ l n (getQ l n + q)⟩ := fun hgd => by unfold markS; rw [HBG.out, if_pos rfl, if_neg (show ¬ a < q by have := HC.out; omega), HGQ.out, if_neg hgd]
            have HGO := Lib.hid hgo
            clear hgo
            by_cases hz : gq = 0
            · by_cases h8 : 8 ≤ l.length
              · have h8i : (8 : Int) ≤ (l.length : Int) := by omega
                have hcr : markS a l q n = .bad (5, none) := by unfold markS; rw [HBG.out, if_pos rfl, if_neg (show ¬ a < q by have := HC.out; omega), HGQ.out, if_pos ⟨hz, h8⟩]
                have HCR := Lib.hid hcr
                clear hcr
                subst hz
                have m0 : w4.cell? ⟨gr, 0, none⟩ = some (.int .i64 0) := HR4.out.cell 0
                have m1 : w4.cell? ⟨gr, 1, none⟩ = some (.slice none 0 0) := HR4.out.cell 1
                have z0 := HR4.out.frozen 0
                have z1 := HR4.out.frozen 1
                have s0 := setCell_same (v := .int .i64 0) (i := 0) HR4.out rfl
                have s1 := setCell_same (v := .slice none 0 0) (i := 1) HR4.out rfl
                go_wp2_with (fail)
                exact ⟨rfl, _, results_cell_tmp Tryd.results48 rfl [.int .i64 0, .slice none 0 0] HR4.out Tryd.underlying24 rfl Tryd.sizeP, by rw [HCR.out]; exact refBad HB4.out⟩
              · have h8i : ¬ (8 : Int) ≤ (l.length : Int) := by omega
                have hcr := HGO.out (fun h => h8 h.2)
                clear h8
                have HZ := Lib.hid hz
                have hzt : (gq == 0) = true := by simpa using hz
                clear hz
                obtain ⟨L, hL⟩ : ∃ x, setQ l n (gq + q) = x := ⟨_, rfl⟩
                obtain ⟨a1, ha2⟩ : ∃ x, a - q = x := ⟨_, rfl⟩
                rw [HGQ.out, ha2, hL] at hcr
                have HCR := Lib.hid hcr
                have HLE := Lib.hid hL
                have hw1 : IntKind.i64.wrap (gq + q) = gq + q := IntWalk.i64_in _ (by have := NUM.out; have := HC.out; omega)
                have hw2 : IntKind.i64.wrap (a - q) = a1 := (IntWalk.i64_in _ (by have := NUM.out; have := HC.out; omega)).trans ha2
                clear hcr hL hc hg0 ha0 ha2
                go_wp2_with (go_at_call 66; refine (with_calls a l A c B a1 n (gq + q) w4 H4.out HBB4.out (by have := HRT.out.len; omega)).mono ?_; rintro e wx ⟨AX, cx, rfl, hmx, hbx⟩; rw [withL_setQ HRT.out.up, HLE.out] at hmx; rw [withL_setQ HRT.out.up, HLE.out]; have hrx := HR4.out.below hbx HR4.out.lt; have HRX := Lib.hid hrx; have HMX := Lib.hid (hmx.base HB4.out.size); have HBX := Lib.hid (HB4.out.trans (hbx.mono HB4.out.size)); have m0 : wx.cell? ⟨gr, 0, none⟩ = some (.int .i64 0) := hrx.cell 0; have m1 : wx.cell? ⟨gr, 1, none⟩ = some (.slice none 0 0) := hrx.cell 1; have z0 := hrx.frozen 0; have z1 := hrx.frozen 1; clear hbx hrx hmx)
                have hrr := (HRX.out.set_ 0 (.int .i64 a1)).set_ 1 (.slice AX L.length cx)
                refine ⟨rfl, _, results_cell_tmp Tryd.results48 rfl [.int .i64 a1, .slice AX L.length cx] hrr Tryd.underlying24 rfl Tryd.sizeP, ?_⟩
                rw [HCR.out]
                exact ⟨(HBX.out.setCell (p := ⟨gr, 0, none⟩) HGE.out _).setCell (p := ⟨gr, 1, none⟩) HGE.out _, _, _, rfl, (HMX.out.far HRX.out _ _).far (HRX.out.set_ 0 _) _ _⟩
            · have hcr := HGO.out (fun h => hz h.1)
              have hzt : (gq == 0) = false := by simpa using hz
              obtain ⟨L, hL⟩ : ∃ x, setQ l n (gq + q) = x := ⟨_, rfl⟩
              obtain ⟨a1, ha2⟩ : ∃ x, a - q = x := ⟨_, rfl⟩
              rw [HGQ.out, ha2, hL] at hcr
              have HCR := Lib.hid hcr
              have HLE := Lib.hid hL
              have hw1 : IntKind.i64.wrap (gq + q) = gq + q := IntWalk.i64_in _ (by have := NUM.out; have := HC.out; omega)
              have hw2 : IntKind.i64.wrap (a - q) = a1 := (IntWalk.i64_in _ (by have := NUM.out; have := HC.out; omega)).trans ha2
              clear hcr hL hc hg0 ha0 ha2
              go_wp2_with (go_at_call 66; refine (with_calls a l A c B a1 n (gq + q) w4 H4.out HBB4.out (by have := HRT.out.len; omega)).mono ?_; rintro e wx ⟨AX, cx, rfl, hmx, hbx⟩; rw [withL_setQ HRT.out.up, HLE.out] at hmx; rw [withL_setQ HRT.out.up, HLE.out]; have hrx := HR4.out.below hbx HR4.out.lt; have HRX := Lib.hid hrx; have HMX := Lib.hid (hmx.base HB4.out.size); have HBX := Lib.hid (HB4.out.trans (hbx.mono HB4.out.size)); have m0 : wx.cell? ⟨gr, 0, none⟩ = some (.int .i64 0) := hrx.cell 0; have m1 : wx.cell? ⟨gr, 1, none⟩ = some (.slice none 0 0) := hrx.cell 1; have z0 := hrx.frozen 0; have z1 := hrx.frozen 1; clear hbx hrx hmx)
              have hrr := (HRX.out.set_ 0 (.int .i64 a1)).set_ 1 (.slice AX L.length cx)
              refine ⟨rfl, _, results_cell_tmp Tryd.results48 rfl [.int .i64 a1, .slice AX L.length cx] hrr Tryd.underlying24 rfl Tryd.sizeP, ?_⟩
              rw [HCR.out]
              exact ⟨(HBX.out.setCell (p := ⟨gr, 0, none⟩) HGE.out _).setCell (p := ⟨gr, 1, none⟩) HGE.out _, _, _, rfl, (HMX.out.far HRX.out _ _).far (HRX.out.set_ 0 _) _ _⟩
  · have hcr : markS a l q n = .bad ((posCheck a l).1, some (posCheck a l).2) := by
      have hb : beginS a l q n 1 = ((posCheck a l).1, some (posCheck a l).2) := by unfold beginS; rw [if_neg h0]
      unfold markS
      rw [hb, if_neg h0]
    obtain ⟨no, hno⟩ : ∃ x, (posCheck a l).1 = x := ⟨_, rfl⟩
    obtain ⟨pl, hpl⟩ : ∃ x, (posCheck a l).2 = x := ⟨_, rfl⟩
    rw [hno, hpl] at hcr
    rw [hno] at h0 ⊢
    rw [hpl]
    have HCR := Lib.hid hcr
    clear hcr hno hpl
    have m0 : w3.cell? ⟨gr, 0, none⟩ = some (.int .i64 0) := HR3.out.cell 0
    have m1 : w3.cell? ⟨gr, 1, none⟩ = some (.slice none 0 0) := HR3.out.cell 1
    have z0 := HR3.out.frozen 0
    have z1 := HR3.out.frozen 1
    have s0 := setCell_same (v := .int .i64 0) (i := 0) HR3.out rfl
    have s1 := setCell_same (v := .slice none 0 0) (i := 1) HR3.out rfl
    go_wp2_with (fail)
    exact ⟨rfl, _, results_cell_tmp Tryd.results48 rfl [.int .i64 0, .slice none 0 0] HR3.out Tryd.underlying24 rfl Tryd.sizeP, by rw [HCR.out]; exact refBad HB3.out⟩

set_option maxRecDepth 100000 in
set_option maxHeartbeats 4000000 in
theorem runmark_calls (a : Int) (l : List Mk) (A : Option Addr) (c B : Nat) (q n : Int) (w : World) (h : PosOK w B a l A) (hB : B ≤ w.heap.size) (hG : HG w) (hq : q ≤ 9223372036854775807) :
    Calls Tryd.prog 49 #[.agg #[.int .i64 a, .slice A l.length c], .int .i64 q, .int .i64 n] w (RefTo w (unmarkS a l q n)) := by
  obtain ⟨gp, hgp⟩ : ∃ g, w.heap.size = g := ⟨_, rfl⟩
  obtain ⟨W1, hW1⟩ : ∃ W, w.alloc (.cells #[.int .i64 a, .slice A l.length c] 24) = W := ⟨_, rfl⟩
  obtain ⟨W2, hW2⟩ : ∃ W, W1.alloc (.cells #[.int .i64 0, .slice none 0 0] 24) = W := ⟨_, rfl⟩
  obtain ⟨gr, hgr⟩ : ∃ g, W1.heap.size = g := ⟨_, rfl⟩
  have hb1 : Below w.heap.size w W1 := hW1 ▸ (Below.refl _ _).alloc (Nat.le_refl _) _
  have hb2 : Below w.heap.size w W2 := hW2 ▸ hb1.alloc hb1.size _
  have hp : Blk W2 gp 24 #[.int .i64 a, .slice A l.length c] := by rw [← hW2, ← hW1]; exact (blkNew hgp).alloc _
  have hr : Blk W2 gr 24 #[.int .i64 0, .slice none 0 0] := by rw [← hW2]; exact blkNew hgr
  have hgr2 : gr = gp + 1 := by rw [← hgr, ← hW1]; simp [hgp]
  have hge : w.heap.size ≤ gr := by omega
  have H := Lib.hid (h.below (hb2.mono hB))
  have HGG := Lib.hid (hG.below hb2)
  have HBB := Lib.hid (Nat.le_trans hB hb2.size)
  have HB2 := Lib.hid hb2
  have HP := Lib.hid hp
  have HR := Lib.hid hr
  have HGE := Lib.hid hge
  have p0 : W2.cell? ⟨gp, 0, none⟩ = some (.int .i64 a) := hp.cell 0
  have p1 : W2.cell? ⟨gp, 1, none⟩ = some (.slice A l.length c) := hp.cell 1
  clear h hb1 hb2 hp hr hB hgr2 hge hG
  go_enter Tryd.func49, Tryd.ntmps49
  go_wp2_with (fail)
  refine (rcheck_calls a l A c B W2 H.out HBB.out).mono ?_
  rintro e w3 ⟨rfl, hb3⟩
  have HB3 := Lib.hid (HB2.out.trans (hb3.mono HB2.out.size))
  have H3 := Lib.hid (H.out.below (hb3.mono HBB.out))
  have HG3 := Lib.hid (HGG.out.below hb3)
  have HBB3 := Lib.hid (Nat.le_trans HBB.out hb3.size)
  have HP3 := Lib.hid (HP.out.below hb3 HP.out.lt)
  have HR3 := Lib.hid (HR.out.below hb3 HR.out.lt)
  have q0 : w3.cell? ⟨gp, 0, none⟩ = some (.int .i64 a) := HP3.out.cell 0
  have q1 : w3.cell? ⟨gp, 1, none⟩ = some (.slice A l.length c) := HP3.out.cell 1
  clear hb3 p0 p1 hW1 hW2 hgr hgp
  by_cases h0 : (posCheck a l).1 = 0
  · have hr := right_of_check H.out.a1 h0
    rw [check_of_right hr]
    have HH0 := Lib.hid h0
    have ht1 := hr.sum
    unfold MaxA at ht1
    have ha0 := hr.a0
    have ha1 := H.out.a1
    have hs0 := sumQ_nonneg hr.q
    have HRT := Lib.hid hr
    have hg0 := getQ_nonneg hr.q n
    have hg1 := getQ_le hr.q n
    have hmk := right_marked hr n
    have hcv := right_cover hr n
    obtain ⟨gq, hgq⟩ : ∃ g, getQ l n = g := ⟨_, rfl⟩
    obtain ⟨sq, hsq⟩ : ∃ s, sumQ l = s := ⟨_, rfl⟩
    rw [hgq] at hg0 hg1 hmk hcv
    rw [hsq] at ht1 hg1 hs0
    have HGQ := Lib.hid hgq
    have HMK := Lib.hid hmk
    have HCV := Lib.hid hcv
    have NUM : Hid (0 ≤ gq ∧ gq ≤ sq ∧ a + sq ≤ 9223372036854775807 ∧ 0 ≤ a ∧ q ≤ 9223372036854775807 ∧ 0 ≤ sq ∧ a ≤ 9223372036854775807) := ⟨hg0, hg1, ht1, ha0, hq, hs0, ha1⟩
    clear hr h0 hg1 hs0 hmk hcv hgq hsq ht1
    by_cases hq1 : q < 1
    · have hcr : unmarkS a l q n = .bad (16, none) := by
        have hb : beginS a l q n 1 = (16, none) := by unfold beginS; rw [if_pos HH0.out, if_pos hq1]
        unfold unmarkS
        rw [hb, if_neg (by decide)]
      have HCR := Lib.hid hcr
      clear hcr
      have m0 : w3.cell? ⟨gr, 0, none⟩ = some (.int .i64 0) := HR3.out.cell 0
      have m1 : w3.cell? ⟨gr, 1, none⟩ = some (.slice none 0 0) := HR3.out.cell 1
      have z0 := HR3.out.frozen 0
      have z1 := HR3.out.frozen 1
      have s0 := setCell_same (v := .int .i64 0) (i := 0) HR3.out rfl
      have s1 := setCell_same (v := .slice none 0 0) (i := 1) HR3.out rfl
      go_wp2_with (fail)
      exact ⟨rfl, _, results_cell_tmp Tryd.results49 rfl [.int .i64 0, .slice none 0 0] HR3.out Tryd.underlying24 rfl Tryd.sizeP, by rw [HCR.out]; exact refBad HB3.out⟩
    · have hq1' : 1 ≤ q := by omega
      go_wp2_with (fail)
      refine (rmarked_calls a l A c B n w3 H3.out HBB3.out).mono ?_
      rintro e w4 ⟨rfl, hb4⟩
      rw [HMK.out]
      have HB4 := Lib.hid (HB3.out.trans (hb4.mono HB3.out.size))
      have H4 := Lib.hid (H3.out.below (hb4.mono HBB3.out))
      have HG4 := Lib.hid (HG3.out.below hb4)
      have HBB4 := Lib.hid (Nat.le_trans HBB3.out hb4.size)
      have HP4 := Lib.hid (HP3.out.below hb4 HP3.out.lt)
      have HR4 := Lib.hid (HR3.out.below hb4 HR3.out.lt)
      have r0 : w4.cell? ⟨gp, 0, none⟩ = some (.int .i64 a) := HP4.out.cell 0
      have r1 : w4.cell? ⟨gp, 1, none⟩ = some (.slice A l.length c) := HP4.out.cell 1
      clear hb4 q0 q1
      by_cases hn1 : n < 1
      · have hcr : unmarkS a l q n = .bad (19, none) := by
          have hb : beginS a l q n 1 = (19, none) := by unfold beginS; rw [if_pos HH0.out, if_neg (show ¬ q < 1 by omega), if_pos (.inl hn1)]
          unfold unmarkS
          rw [hb, if_neg (by decide)]
        have HCR := Lib.hid hcr
        clear hcr
        have m0 : w4.cell? ⟨gr, 0, none⟩ = some (.int .i64 0) := HR4.out.cell 0
        have m1 : w4.cell? ⟨gr, 1, none⟩ = some (.slice none 0 0) := HR4.out.cell 1
        have z0 := HR4.out.frozen 0
        have z1 := HR4.out.frozen 1
        have s0 := setCell_same (v := .int .i64 0) (i := 0) HR4.out rfl
        have s1 := setCell_same (v := .slice none 0 0) (i := 1) HR4.out rfl
        go_wp2_with (fail)
        exact ⟨rfl, _, results_cell_tmp Tryd.results49 rfl [.int .i64 0, .slice none 0 0] HR4.out Tryd.underlying24 rfl Tryd.sizeP, by rw [HCR.out]; exact refBad HB4.out⟩
      · by_cases hn2 : 65536 < n
        · have hcr : unmarkS a l q n = .bad (19, none) := by
            have hb : beginS a l q n 1 = (19, none) := by unfold beginS; rw [if_pos HH0.out, if_neg (show ¬ q < 1 by omega), if_pos (.inr hn2)]
            unfold unmarkS
            rw [hb, if_neg (by decide)]
          have HCR := Lib.hid hcr
          clear hcr
          have m0 : w4.cell? ⟨gr, 0, none⟩ = some (.int .i64 0) := HR4.out.cell 0
          have m1 : w4.cell? ⟨gr, 1, none⟩ = some (.slice none 0 0) := HR4.out.cell 1
          have z0 := HR4.out.frozen 0
          have z1 := HR4.out.frozen 1
          have s0 := setCell_same (v := .int .i64 0) (i := 0) HR4.out rfl
          have s1 := setCell_same (v := .slice none 0 0) (i := 1) HR4.out rfl
          go_wp2_with (fail)
          exact ⟨rfl, _, results_cell_tmp Tryd.results49 rfl [.int .i64 0, .slice none 0 0] HR4.out Tryd.underlying24 rfl Tryd.sizeP, by rw [HCR.out]; exact refBad HB4.out⟩
        · have HBG := Lib.hid (begin_ok (least := 1) HH0.out hq1' (show 1 ≤ n by omega) (show n ≤ 65536 by omega))
          by_cases hz : gq = 0
          · have hcr : unmarkS a l q n = .bad (19, none) := by unfold unmarkS; rw [HBG.out, if_pos rfl, HMK.out, if_pos hz]
            have HCR := Lib.hid hcr
            clear hcr
            subst hz
            have m0 : w4.cell? ⟨gr, 0, none⟩ = some (.int .i64 0) := HR4.out.cell 0
            have m1 : w4.cell? ⟨gr, 1, none⟩ = some (.slice none 0 0) := HR4.out.cell 1
            have z0 := HR4.out.frozen 0
            have z1 := HR4.out.frozen 1
            have s0 := setCell_same (v := .int .i64 0) (i := 0) HR4.out rfl
            have s1 := setCell_same (v := .slice none 0 0) (i := 1) HR4.out rfl
            go_wp2_with (fail)
            exact ⟨rfl, _, results_cell_tmp Tryd.results49 rfl [.int .i64 0, .slice none 0 0] HR4.out Tryd.underlying24 rfl Tryd.sizeP, by rw [HCR.out]; exact refBad HB4.out⟩
          · have hzt : (gq == 0) = false := by simpa using hz
            by_cases hc : gq < q
            · have hcr : unmarkS a l q n = .bad (18, none) := by unfold unmarkS; rw [HBG.out, if_pos rfl, HMK.out, if_neg hz, if_pos hc]
              have HCR := Lib.hid hcr
              clear hcr
              have m0 : w4.cell? ⟨gr, 0, none⟩ = some (.int .i64 0) := HR4.out.cell 0
              have m1 : w4.cell? ⟨gr, 1, none⟩ = some (.slice none 0 0) := HR4.out.cell 1
              have z0 := HR4.out.frozen 0
              have z1 := HR4.out.frozen 1
              have s0 := setCell_same (v := .int .i64 0) (i := 0) HR4.out rfl
              have s1 := setCell_same (v := .slice none 0 0) (i := 1) HR4.out rfl
              go_wp2_with (fail)
              exact ⟨rfl, _, results_cell_tmp Tryd.results49 rfl [.int .i64 0, .slice none 0 0] HR4.out Tryd.underlying24 rfl Tryd.sizeP, by rw [HCR.out]; exact refBad HB4.out⟩
            · have HC := Lib.hid hc
              have hcr : unmarkS a l q n = ⟨0, none, a + q, setQ l n (getQ l n - q)⟩ := by unfold unmarkS; rw [HBG.out, if_pos rfl, HMK.out, if_neg hz, if_neg hc]
              obtain ⟨L, hL⟩ : ∃ x, setQ l n (gq - q) = x := ⟨_, rfl⟩
              obtain ⟨a1, ha2⟩ : ∃ x, a + q = x := ⟨_, rfl⟩
              rw [HGQ.out, ha2, hL] at hcr
              have HCR := Lib.hid hcr
              have HLE := Lib.hid hL
              have hw1 : IntKind.i64.wrap (gq - q) = gq - q := IntWalk.i64_in _ (by have := NUM.out; have := HC.out; omega)
              have hw2 : IntKind.i64.wrap (a + q) = a1 := (IntWalk.i64_in _ (by have := NUM.out; have := HC.out; omega)).trans ha2
              clear hcr hL hg0 ha0 ha2
              go_wp2_with (go_at_call 66; refine (with_calls a l A c B a1 n (gq - q) w4 H4.out HBB4.out (by have := HRT.out.len; omega)).mono ?_; rintro e wx ⟨AX, cx, rfl, hmx, hbx⟩; rw [withL_setQ HRT.out.up, HLE.out] at hmx; rw [withL_setQ HRT.out.up, HLE.out]; have hrx := HR4.out.below hbx HR4.out.lt; have HRX := Lib.hid hrx; have HMX := Lib.hid (hmx.base HB4.out.size); have HBX := Lib.hid (HB4.out.trans (hbx.mono HB4.out.size)); have m0 : wx.cell? ⟨gr, 0, none⟩ = some (.int .i64 0) := hrx.cell 0; have m1 : wx.cell? ⟨gr, 1, none⟩ = some (.slice none 0 0) := hrx.cell 1; have z0 := hrx.frozen 0; have z1 := hrx.frozen 1; clear hbx hrx hmx)
              have hrr := (HRX.out.set_ 0 (.int .i64 a1)).set_ 1 (.slice AX L.length cx)
              refine ⟨rfl, _, results_cell_tmp Tryd.results49 rfl [.int .i64 a1, .slice AX L.length cx] hrr Tryd.underlying24 rfl Tryd.sizeP, ?_⟩
              rw [HCR.out]
              exact ⟨(HBX.out.setCell (p := ⟨gr, 0, none⟩) HGE.out _).setCell (p := ⟨gr, 1, none⟩) HGE.out _, _, _, rfl, (HMX.out.far HRX.out _ _).far (HRX.out.set_ 0 _) _ _⟩
  · have hcr : unmarkS a l q n = .bad ((posCheck a l).1, some (posCheck a l).2) := by
      have hb : beginS a l q n 1 = ((posCheck a l).1, some (posCheck a l).2) := by unfold beginS; rw [if_neg h0]
      unfold unmarkS
      rw [hb, if_neg h0]
    obtain ⟨no, hno⟩ : ∃ x, (posCheck a l).1 = x := ⟨_, rfl⟩
    obtain ⟨pl, hpl⟩ : ∃ x, (posCheck a l).2 = x := ⟨_, rfl⟩
    rw [hno, hpl] at hcr
    rw [hno] at h0 ⊢
    rw [hpl]
    have HCR := Lib.hid hcr
    clear hcr hno hpl
    have m0 : w3.cell? ⟨gr, 0, none⟩ = some (.int .i64 0) := HR3.out.cell 0
    have m1 : w3.cell? ⟨gr, 1, none⟩ = some (.slice none 0 0) := HR3.out.cell 1
    have z0 := HR3.out.frozen 0
    have z1 := HR3.out.frozen 1
    have s0 := setCell_same (v := .int .i64 0) (i := 0) HR3.out rfl
    have s1 := setCell_same (v := .slice none 0 0) (i := 1) HR3.out rfl
    go_wp2_with (fail)
    exact ⟨rfl, _, results_cell_tmp Tryd.results49 rfl [.int .i64 0, .slice none 0 0] HR3.out Tryd.underlying24 rfl Tryd.sizeP, by rw [HCR.out]; exact refBad HB3.out⟩

set_option maxRecDepth 100000 in
set_option maxHeartbeats 4000000 in
theorem rcredit_calls (a : Int) (l : List Mk) (A : Option Addr) (c B : Nat) (q : Int) (w : World) (h : PosOK w B a l A) (hB : B ≤ w.heap.size) (hG : HG w) (hq : q ≤ 9223372036854775807) :
    Calls Tryd.prog 46 #[.agg #[.int .i64 a, .slice A l.length c], .int .i64 q] w (RefTo w (creditS a l q)) := by
  obtain ⟨gp, hgp⟩ : ∃ g, w.heap.size = g := ⟨_, rfl⟩
  obtain ⟨W1, hW1⟩ : ∃ W, w.alloc (.cells #[.int .i64 a, .slice A l.length c] 24) = W := ⟨_, rfl⟩
  obtain ⟨W2, hW2⟩ : ∃ W, W1.alloc (.cells #[.int .i64 0, .slice none 0 0] 24) = W := ⟨_, rfl⟩
  obtain ⟨gr, hgr⟩ : ∃ g, W1.heap.size = g := ⟨_, rfl⟩
  have hb1 : Below w.heap.size w W1 := hW1 ▸ (Below.refl _ _).alloc (Nat.le_refl _) _
  have hb2 : Below w.heap.size w W2 := hW2 ▸ hb1.alloc hb1.size _
  have hp : Blk W2 gp 24 #[.int .i64 a, .slice A l.length c] := by rw [← hW2, ← hW1]; exact (blkNew hgp).alloc _
  have hr : Blk W2 gr 24 #[.int .i64 0, .slice none 0 0] := by rw [← hW2]; exact blkNew hgr
  have hgr2 : gr = gp + 1 := by rw [← hgr, ← hW1]; simp [hgp]
  have hge : w.heap.size ≤ gr := by omega
  have H := Lib.hid (h.below (hb2.mono hB))
  have HGG := Lib.hid (hG.below hb2)
  have HBB := Lib.hid (Nat.le_trans hB hb2.size)
  have HB2 := Lib.hid hb2
  have HP := Lib.hid hp
  have HR := Lib.hid hr
  have HGE := Lib.hid hge
  have p0 : W2.cell? ⟨gp, 0, none⟩ = some (.int .i64 a) := hp.cell 0
  have p1 : W2.cell? ⟨gp, 1, none⟩ = some (.slice A l.length c) := hp.cell 1
  clear h hb1 hb2 hp hr hB hgr2 hge hG
  go_enter Tryd.func46, Tryd.ntmps46
  go_wp2_with (fail)
  refine (rcheck_calls a l A c B W2 H.out HBB.out).mono ?_
  rintro e w3 ⟨rfl, hb3⟩
  have HB3 := Lib.hid (HB2.out.trans (hb3.mono HB2.out.size))
  have H3 := Lib.hid (H.out.below (hb3.mono HBB.out))
  have HG3 := Lib.hid (HGG.out.below hb3)
  have HBB3 := Lib.hid (Nat.le_trans HBB.out hb3.size)
  have HP3 := Lib.hid (HP.out.below hb3 HP.out.lt)
  have HR3 := Lib.hid (HR.out.below hb3 HR.out.lt)
  have q0 : w3.cell? ⟨gp, 0, none⟩ = some (.int .i64 a) := HP3.out.cell 0
  have q1 : w3.cell? ⟨gp, 1, none⟩ = some (.slice A l.length c) := HP3.out.cell 1
  clear hb3 p0 p1 hW1 hW2 hgr hgp
  by_cases h0 : (posCheck a l).1 = 0
  · have hr := right_of_check H.out.a1 h0
    rw [check_of_right hr]
    have HH0 := Lib.hid h0
    have ht1 := hr.sum
    unfold MaxA at ht1
    have ha0 := hr.a0
    have ha1 := H.out.a1
    have hs0 := sumQ_nonneg hr.q
    have HRT := Lib.hid hr
    have ht := right_total hr
    have hz0 := getQ_zero hr
    have hset : setQ l 0 0 = l := by
      have := setQ_getQ hr.up hr.q 0
      rwa [hz0] at this
    obtain ⟨sq, hsq⟩ : ∃ s, sumQ l = s := ⟨_, rfl⟩
    rw [hsq] at ht1 hs0 ht
    obtain ⟨tt, htt⟩ : ∃ t, a + sq = t := ⟨_, rfl⟩
    rw [htt] at ht ht1
    have HT := Lib.hid ht
    have HLE := Lib.hid hset
    have NUM : Hid (tt = a + sq ∧ tt ≤ 9223372036854775807 ∧ 0 ≤ a ∧ q ≤ 9223372036854775807 ∧ 0 ≤ sq ∧ a ≤ 9223372036854775807) := ⟨htt.symm, ht1, ha0, hq, hs0, ha1⟩
    clear hr h0 hs0 hsq ht hz0 hset htt
    by_cases hq1 : q < 1
    · have hcr : creditS a l q = .bad (16, none) := by
        have hb : beginS a l q 0 0 = (16, none) := by unfold beginS; rw [if_pos HH0.out, if_pos hq1]
        unfold creditS
        rw [hb, if_neg (by decide)]
      have HCR := Lib.hid hcr
      clear hcr
      have m0 : w3.cell? ⟨gr, 0, none⟩ = some (.int .i64 0) := HR3.out.cell 0
      have m1 : w3.cell? ⟨gr, 1, none⟩ = some (.slice none 0 0) := HR3.out.cell 1
      have z0 := HR3.out.frozen 0
      have z1 := HR3.out.frozen 1
      have s0 := setCell_same (v := .int .i64 0) (i := 0) HR3.out rfl
      have s1 := setCell_same (v := .slice none 0 0) (i := 1) HR3.out rfl
      go_wp2_with (fail)
      exact ⟨rfl, _, results_cell_tmp Tryd.results46 rfl [.int .i64 0, .slice none 0 0] HR3.out Tryd.underlying24 rfl Tryd.sizeP, by rw [HCR.out]; exact refBad HB3.out⟩
    · have hq1' : 1 ≤ q := by omega
      have HBG := Lib.hid (begin_ok (least := 0) (n := 0) HH0.out hq1' (by decide) (by decide))
      go_wp2_with (fail)
      refine (rtotal_calls a l A c B w3 H3.out HBB3.out).mono ?_
      rintro e w4 ⟨rfl, hb4⟩
      rw [HT.out]
      have HB4 := Lib.hid (HB3.out.trans (hb4.mono HB3.out.size))
      have H4 := Lib.hid (H3.out.below (hb4.mono HBB3.out))
      have HG4 := Lib.hid (HG3.out.below hb4)
      have HBB4 := Lib.hid (Nat.le_trans HBB3.out hb4.size)
      have HP4 := Lib.hid (HP3.out.below hb4 HP3.out.lt)
      have HR4 := Lib.hid (HR3.out.below hb4 HR3.out.lt)
      have r0 : w4.cell? ⟨gp, 0, none⟩ = some (.int .i64 a) := HP4.out.cell 0
      have r1 : w4.cell? ⟨gp, 1, none⟩ = some (.slice A l.length c) := HP4.out.cell 1
      clear hb4 q0 q1
      go_wp2_with (fail)
      refine (fits_calls tt q w4 (by have := NUM.out; omega)).mono ?_
      rintro e w5 ⟨rfl, rfl⟩
      rename World => w4
      by_cases hf : q ≤ 9223372036854775807 - tt
      · rw [decide_eq_true hf]
        have hcr : creditS a l q = ⟨0, none, a + q, l⟩ := by unfold creditS; rw [HBG.out, if_pos rfl, HT.out, if_neg (show ¬ MaxA - tt < q by unfold MaxA; omega)]
        obtain ⟨a1, ha2⟩ : ∃ x, a + q = x := ⟨_, rfl⟩
        rw [ha2] at hcr
        have HCR := Lib.hid hcr
        have hw2 : IntKind.i64.wrap (a + q) = a1 := (IntWalk.i64_in _ (by have := NUM.out; omega)).trans ha2
        clear hcr ha0 ha2
        go_wp2_with (go_at_call 66; refine (with_calls a l A c B a1 0 0 w4 H4.out HBB4.out (by have := HRT.out.len; omega)).mono ?_; rintro e wx ⟨AX, cx, rfl, hmx, hbx⟩; rw [withL_setQ HRT.out.up, HLE.out] at hmx; rw [withL_setQ HRT.out.up, HLE.out]; have hrx := HR4.out.below hbx HR4.out.lt; have HRX := Lib.hid hrx; have HMX := Lib.hid (hmx.base HB4.out.size); have HBX := Lib.hid (HB4.out.trans (hbx.mono HB4.out.size)); have m0 : wx.cell? ⟨gr, 0, none⟩ = some (.int .i64 0) := hrx.cell 0; have m1 : wx.cell? ⟨gr, 1, none⟩ = some (.slice none 0 0) := hrx.cell 1; have z0 := hrx.frozen 0; have z1 := hrx.frozen 1; clear hbx hrx hmx)
        have hrr := (HRX.out.set_ 0 (.int .i64 a1)).set_ 1 (.slice AX l.length cx)
        refine ⟨rfl, _, results_cell_tmp Tryd.results46 rfl [.int .i64 a1, .slice AX l.length cx] hrr Tryd.underlying24 rfl Tryd.sizeP, ?_⟩
        rw [HCR.out]
        exact ⟨(HBX.out.setCell (p := ⟨gr, 0, none⟩) HGE.out _).setCell (p := ⟨gr, 1, none⟩) HGE.out _, _, _, rfl, (HMX.out.far HRX.out _ _).far (HRX.out.set_ 0 _) _ _⟩
      · rw [decide_eq_false hf]
        have hcr : creditS a l q = .bad (9, none) := by unfold creditS; rw [HBG.out, if_pos rfl, HT.out, if_pos (show MaxA - tt < q by unfold MaxA; omega)]
        have HCR := Lib.hid hcr
        clear hcr
        have m0 : w4.cell? ⟨gr, 0, none⟩ = some (.int .i64 0) := HR4.out.cell 0
        have m1 : w4.cell? ⟨gr, 1, none⟩ = some (.slice none 0 0) := HR4.out.cell 1
        have z0 := HR4.out.frozen 0
        have z1 := HR4.out.frozen 1
        have s0 := setCell_same (v := .int .i64 0) (i := 0) HR4.out rfl
        have s1 := setCell_same (v := .slice none 0 0) (i := 1) HR4.out rfl
        go_wp2_with (fail)
        exact ⟨rfl, _, results_cell_tmp Tryd.results46 rfl [.int .i64 0, .slice none 0 0] HR4.out Tryd.underlying24 rfl Tryd.sizeP, by rw [HCR.out]; exact refBad HB4.out⟩
  · have hcr : creditS a l q = .bad ((posCheck a l).1, some (posCheck a l).2) := by
      have hb : beginS a l q 0 0 = ((posCheck a l).1, some (posCheck a l).2) := by unfold beginS; rw [if_neg h0]
      unfold creditS
      rw [hb, if_neg h0]
    obtain ⟨no, hno⟩ : ∃ x, (posCheck a l).1 = x := ⟨_, rfl⟩
    obtain ⟨pl, hpl⟩ : ∃ x, (posCheck a l).2 = x := ⟨_, rfl⟩
    rw [hno, hpl] at hcr
    rw [hno] at h0 ⊢
    rw [hpl]
    have HCR := Lib.hid hcr
    clear hcr hno hpl
    have m0 : w3.cell? ⟨gr, 0, none⟩ = some (.int .i64 0) := HR3.out.cell 0
    have m1 : w3.cell? ⟨gr, 1, none⟩ = some (.slice none 0 0) := HR3.out.cell 1
    have z0 := HR3.out.frozen 0
    have z1 := HR3.out.frozen 1
    have s0 := setCell_same (v := .int .i64 0) (i := 0) HR3.out rfl
    have s1 := setCell_same (v := .slice none 0 0) (i := 1) HR3.out rfl
    go_wp2_with (fail)
    exact ⟨rfl, _, results_cell_tmp Tryd.results46 rfl [.int .i64 0, .slice none 0 0] HR3.out Tryd.underlying24 rfl Tryd.sizeP, by rw [HCR.out]; exact refBad HB3.out⟩
end Go.Proofs.YtcgcgekefhhjhaaDoor
