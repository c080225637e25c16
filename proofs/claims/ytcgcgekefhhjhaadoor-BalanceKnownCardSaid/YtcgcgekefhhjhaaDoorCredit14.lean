/- balance.Credit by a contract; the package's answers. -/
import Derived.Test.YtcgcgekefhhjhaaDoorClone14
namespace Go.Proofs.YtcgcgekefhhjhaaDoor
set_option linter.unusedSimpArgs false
set_option linter.unusedVariables false
open Go.RowKit

/-- What a call of the package answers. -/
def ResTo (w : World) (r : Res) (e : Ending) (w' : World) : Prop :=
  Below w.heap.size w w' ∧ ∃ v, e = .returned (.tuple #[.agg #[.int .i64 r.a, v], outV (r.e, r.pl)]) ∧ OwnM w' w.heap.size v r.l
theorem OwnM.nil (w : World) (B : Nat) : OwnM w B (.slice none 0 0) [] := World.ownsRow_nil _ _ _ _
theorem resBad {w w' : World} {b : Int × Option Int} (hb : Below w.heap.size w w') : ResTo w (.bad b) (.returned (.tuple #[zeroP, outV b])) w' :=
  ⟨hb, _, rfl, OwnM.nil _ _⟩

set_option maxRecDepth 100000 in
set_option maxHeartbeats 4000000 in
theorem credit_calls (a : Int) (l : List Mk) (A : Option Addr) (c B : Nat) (q : Int) (w : World) (h : PosOK w B a l A) (hB : B ≤ w.heap.size) (hG : HG w) (hq : q ≤ 9223372036854775807) :
    Calls Tryd.prog 30 #[.agg #[.int .i64 a, .slice A l.length c], .int .i64 q] w (ResTo w (creditS a l q)) := by
  obtain ⟨gp, hgp⟩ : ∃ g, w.heap.size = g := ⟨_, rfl⟩
  obtain ⟨W1, hW1⟩ : ∃ W, w.alloc (.cells #[.int .i64 a, .slice A l.length c] 24) = W := ⟨_, rfl⟩
  obtain ⟨W2, hW2⟩ : ∃ W, W1.alloc (.cells #[.int .i64 0, .slice none 0 0] 24) = W := ⟨_, rfl⟩
  obtain ⟨gr, hgr⟩ : ∃ g, W1.heap.size = g := ⟨_, rfl⟩
  have hb1 : Below w.heap.size w W1 := hW1 ▸ (Below.refl _ _).alloc (Nat.le_refl _) _
  have hb2 : Below w.heap.size w W2 := hW2 ▸ hb1.alloc hb1.size _
  have hp : Blk W2 gp 24 #[.int .i64 a, .slice A l.length c] := by rw [← hW2, ← hW1]; exact (blkNew hgp).alloc _
  have hr : Blk W2 gr 24 #[.int .i64 0, .slice none 0 0] := by rw [← hW2]; exact blkNew hgr
  have hgr2 : gr = gp + 1 := by rw [← hgr, ← hW1]; simp [hgp]
  have hge : w.heap.size ≤ gr := by omega
  have H := Lib.hid (h.below (hb2.mono hB))
  have HGG := Lib.hid (hG.below hb2)
  have HBB := Lib.hid (Nat.le_trans hB hb2.size)
  have HB2 := Lib.hid hb2
  have HP := Lib.hid hp
  have HR := Lib.hid hr
  have HGE := Lib.hid hge
  have p0 : W2.cell? ⟨gp, 0, none⟩ = some (.int .i64 a) := hp.cell 0
  have p1 : W2.cell? ⟨gp, 1, none⟩ = some (.slice A l.length c) := hp.cell 1
  clear h hb1 hb2 hp hr hB hgr2 hge hG
  go_enter Tryd.func30, Tryd.ntmps30
  go_wp2_with (fail)
  refine (begin_calls a l A c B q 0 0 W2 H.out HBB.out).mono ?_
  rintro e w3 ⟨hb3, v, rfl, hv⟩
  have HB3 := Lib.hid (HB2.out.trans (hb3.mono HB2.out.size))
  have H3 := Lib.hid (H.out.below (hb3.mono HBB.out))
  have HG3 := Lib.hid (HGG.out.below hb3)
  have HBB3 := Lib.hid (Nat.le_trans HBB.out hb3.size)
  have HP3 := Lib.hid (HP.out.below hb3 HP.out.lt)
  have HR3 := Lib.hid (HR.out.below hb3 HR.out.lt)
  have q0 : w3.cell? ⟨gp, 0, none⟩ = some (.int .i64 a) := HP3.out.cell 0
  have q1 : w3.cell? ⟨gp, 1, none⟩ = some (.slice A l.length c) := HP3.out.cell 1
  by_cases hbz : (beginS a l q 0 0).1 = 0
  · obtain ⟨hz1, hq1, _, _⟩ := begin_zero hbz
    have hr := right_of_check H.out.a1 hz1
    have ht := right_total hr
    have ht0 := total_of_right hr
    have ht1 := hr.sum
    have hv0 : v = .nilIface := by
      rcases hv with ⟨_, h⟩ | ⟨h, _⟩ | ⟨h, _⟩
      · exact h
      · exact absurd hbz h
      · exact absurd hbz h
    subst hv0
    rw [if_pos hbz, ht]
    unfold MaxA at ht1
    obtain ⟨tt, htt⟩ : ∃ tt, a + sumQ l = tt := ⟨_, rfl⟩
    rw [htt] at ht ht0 ht1 ⊢
    have HBZ := Lib.hid hbz
    have HT := Lib.hid ht
    have ha0 := hr.a0
    have HSQ := Lib.hid (sumQ_nonneg hr.q)
    have HTT := Lib.hid htt
    clear hb3 hv hz1 hr ht htt hbz p0 p1 hW1 hW2 hgr hgp
    by_cases hov : 9223372036854775807 - q < tt
    · have hadd : addV tt q = .tuple #[.int .i64 0, .iface 96 (.agg #[.string ⟨#[115, 117, 109]⟩, .int .i64 9])] := if_pos hov
      have hcr : creditS a l q = .bad (9, none) := by unfold creditS; rw [if_pos HBZ.out, if_pos (by rw [HT.out]; unfold MaxA; omega)]
      have HCR := Lib.hid hcr
      clear hcr
      go_wp2_with (go_at_call 51; refine (add_calls tt q _ ht0 (by omega) hq).mono ?_; rintro e w' ⟨rfl, rfl⟩; rw [hadd])
      rename World => w3
      clear hadd
      go_wp2_with (go_at_call 40; refine (refuse_calls (9, none) _ w3.heap.size w3 HG3.out (by decide) (.inr (.inl ⟨by decide, rfl, rfl⟩))).mono ?_; rintro e wx ⟨rfl, hbx⟩; have hrx := HR3.out.below hbx HR3.out.lt; have HRX := Lib.hid hrx; have HBX := Lib.hid (HB3.out.trans (hbx.mono HB3.out.size)); have m0 : wx.cell? ⟨gr, 0, none⟩ = some (.int .i64 0) := hrx.cell 0; have m1 : wx.cell? ⟨gr, 1, none⟩ = some (.slice none 0 0) := hrx.cell 1; have z0 := hrx.frozen 0; have z1 := hrx.frozen 1; have s0 := setCell_same (v := .int .i64 0) (i := 0) hrx rfl; have s1 := setCell_same (v := .slice none 0 0) (i := 1) hrx rfl; unfold zeroP; clear hbx hrx)
      exact ⟨rfl, _, results_cell_tmp Tryd.results30 rfl [.int .i64 0, .slice none 0 0] HRX.out Tryd.underlying24 rfl Tryd.sizeP, by rw [HCR.out]; exact resBad HBX.out⟩
    · have hadd : addV tt q = .tuple #[.int .i64 (tt + q), .nilIface] := if_neg hov
      have hcr : creditS a l q = ⟨0, none, a + q, l⟩ := by unfold creditS; rw [if_pos HBZ.out, if_neg (by rw [HT.out]; unfold MaxA; omega)]
      have HCR := Lib.hid hcr
      have haq : -9223372036854775808 ≤ a + q ∧ a + q ≤ 9223372036854775807 := by
        have := HSQ.out
        have := HTT.out
        omega
      have HAQ := Lib.hid haq
      clear hcr haq
      go_wp2_with (go_at_call 51; refine (add_calls tt q _ ht0 (by omega) hq).mono ?_; rintro e w' ⟨rfl, rfl⟩; rw [hadd])
      rename World => w3
      clear hadd ht0 ht1 ha0 hq1 hov
      go_wp2_with (go_at_call 45; refine (mark0_calls a l A c B q 0 w3 H3.out HBB3.out HAQ.out).mono ?_; rintro e wx ⟨vx, rfl, hmx, hbx⟩; obtain ⟨AX, cx, rfl⟩ := own_slice hmx; have hrx := HR3.out.below hbx HR3.out.lt; have HRX := Lib.hid hrx; have HMX := Lib.hid (hmx.base HB3.out.size); have HBX := Lib.hid (HB3.out.trans (hbx.mono HB3.out.size)); have m0 : wx.cell? ⟨gr, 0, none⟩ = some (.int .i64 0) := hrx.cell 0; have m1 : wx.cell? ⟨gr, 1, none⟩ = some (.slice none 0 0) := hrx.cell 1; have z0 := hrx.frozen 0; have z1 := hrx.frozen 1; clear hbx hrx hmx)
      have hrr := (HRX.out.set_ 0 (.int .i64 (a + q))).set_ 1 (.slice AX l.length cx)
      refine ⟨rfl, _, results_cell_tmp Tryd.results30 rfl [.int .i64 (a + q), .slice AX l.length cx] hrr Tryd.underlying24 rfl Tryd.sizeP, ?_⟩
      rw [HCR.out]
      exact ⟨(HBX.out.setCell (p := ⟨gr, 0, none⟩) HGE.out _).setCell (p := ⟨gr, 1, none⟩) HGE.out _, _, rfl, (HMX.out.far HRX.out _ _).far (HRX.out.set_ 0 _) _ _⟩
  · have hcr : creditS a l q = .bad (beginS a l q 0 0) := by unfold creditS; rw [if_neg hbz]
    have HCR := Lib.hid hcr
    have HZ := Lib.hid hbz
    have HV := Lib.hid (hv.mono_b (Nat.zero_le _))
    rw [if_neg hbz]
    have hne : v ≠ .nilIface := by
      rcases hv with ⟨h, _⟩ | ⟨_, _, rfl⟩ | ⟨_, _, _, _, _, rfl, _⟩
      · exact absurd h hbz
      · simp
      · simp
    clear hcr hbz hb3 p0 p1 hW1 hW2 hgr hgp
    rcases hv with ⟨h, _⟩ | ⟨_, _, rfl⟩ | ⟨_, _, _, g, _, rfl, _⟩
    · exact absurd h HZ.out
    · clear hne
      go_wp2_with (go_at_call 40; refine (refuse_calls (beginS a l q 0 0) _ 0 w3 HG3.out HZ.out HV.out).mono ?_; rintro e wx ⟨rfl, hbx⟩; have hrx := HR3.out.below hbx HR3.out.lt; have HRX := Lib.hid hrx; have HBX := Lib.hid (HB3.out.trans (hbx.mono HB3.out.size)); have m0 : wx.cell? ⟨gr, 0, none⟩ = some (.int .i64 0) := hrx.cell 0; have m1 : wx.cell? ⟨gr, 1, none⟩ = some (.slice none 0 0) := hrx.cell 1; have z0 := hrx.frozen 0; have z1 := hrx.frozen 1; have s0 := setCell_same (v := .int .i64 0) (i := 0) hrx rfl; have s1 := setCell_same (v := .slice none 0 0) (i := 1) hrx rfl; unfold zeroP; clear hbx hrx)
      exact ⟨rfl, _, results_cell_tmp Tryd.results30 rfl [.int .i64 0, .slice none 0 0] HRX.out Tryd.underlying24 rfl Tryd.sizeP, by rw [HCR.out]; exact resBad HBX.out⟩
    · clear hne
      go_wp2_with (go_at_call 40; refine (refuse_calls (beginS a l q 0 0) _ 0 w3 HG3.out HZ.out HV.out).mono ?_; rintro e wx ⟨rfl, hbx⟩; have hrx := HR3.out.below hbx HR3.out.lt; have HRX := Lib.hid hrx; have HBX := Lib.hid (HB3.out.trans (hbx.mono HB3.out.size)); have m0 : wx.cell? ⟨gr, 0, none⟩ = some (.int .i64 0) := hrx.cell 0; have m1 : wx.cell? ⟨gr, 1, none⟩ = some (.slice none 0 0) := hrx.cell 1; have z0 := hrx.frozen 0; have z1 := hrx.frozen 1; have s0 := setCell_same (v := .int .i64 0) (i := 0) hrx rfl; have s1 := setCell_same (v := .slice none 0 0) (i := 1) hrx rfl; unfold zeroP; clear hbx hrx)
      exact ⟨rfl, _, results_cell_tmp Tryd.results30 rfl [.int .i64 0, .slice none 0 0] HRX.out Tryd.underlying24 rfl Tryd.sizeP, by rw [HCR.out]; exact resBad HBX.out⟩
end Go.Proofs.YtcgcgekefhhjhaaDoor
