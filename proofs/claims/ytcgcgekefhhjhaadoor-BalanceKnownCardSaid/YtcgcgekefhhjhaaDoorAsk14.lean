/- custodylaw14's ask and tell by contracts (printed by gen_ask14.py). -/
import Derived.Test.YtcgcgekefhhjhaaDoorMoves14
import Derived.Test.YtcgcgekefhhjhaaDoorRefs14
namespace Go.Proofs.YtcgcgekefhhjhaaDoor
set_option linter.unusedSimpArgs false
set_option linter.unusedVariables false
open Go.RowKit

/-- What a call of a kind answers. -/
def askS (k a : Int) (l : List Mk) (q n : Int) : Res := if k = 0 then creditS a l q else if k = 1 then debitS a l q n else if k = 2 then markS a l q n else unmarkS a l q n

set_option maxRecDepth 100000 in
set_option maxHeartbeats 4000000 in
theorem ask_calls (k a : Int) (l : List Mk) (A : Option Addr) (c B : Nat) (q n : Int) (w : World) (h : PosOK w B a l A) (hB : B ≤ w.heap.size) (hG : HG w) (hq : q ≤ 9223372036854775807) :
    Calls Tryd.prog 26 #[.agg #[.int .i64 a, .slice A l.length c], .agg #[.int .i64 k, .int .i64 q, .int .i64 n]] w (ResTo w (askS k a l q n)) := by
  have Ha_0 := Lib.hid (h)
  have HBB_0 : Hid (B ≤ w.heap.size) := Lib.hid (hB)
  have HG_0 := Lib.hid (hG)
  have HB_0 := Lib.hid (Below.refl w.heap.size w)
  clear h hB hG
  obtain ⟨gp, hgp⟩ : ∃ g, w.heap.size = g := ⟨_, rfl⟩
  obtain ⟨W1, hW1⟩ : ∃ X, w.alloc (.cells #[.int .i64 a, .slice A l.length c] 24) = X := ⟨_, rfl⟩
  have hbW1 : Below w.heap.size w W1 := hW1 ▸ (Below.refl _ _).alloc (Nat.le_refl _) _
  have hnp : Blk W1 gp 24 #[.int .i64 a, .slice A l.length c] := by rw [← hW1]; exact blkNew hgp
  have Ha_1 := Lib.hid (Ha_0.out.below (hbW1.mono HBB_0.out))
  have HBB_1 : Hid (B ≤ W1.heap.size) := Lib.hid (Nat.le_trans HBB_0.out hbW1.size)
  have HG_1 := Lib.hid (HG_0.out.below hbW1)
  have HB_1 := Lib.hid (HB_0.out.trans (hbW1.mono HB_0.out.size))
  have Pp_1 := Lib.hid (hnp)
  clear hbW1 hnp
  obtain ⟨gc, hgc⟩ : ∃ g, W1.heap.size = g := ⟨_, rfl⟩
  obtain ⟨W2, hW2⟩ : ∃ X, W1.alloc (.cells #[.int .i64 k, .int .i64 q, .int .i64 n] 43) = X := ⟨_, rfl⟩
  have hbW2 : Below W1.heap.size W1 W2 := hW2 ▸ (Below.refl _ _).alloc (Nat.le_refl _) _
  have hnc : Blk W2 gc 43 #[.int .i64 k, .int .i64 q, .int .i64 n] := by rw [← hW2]; exact blkNew hgc
  have Ha_2 := Lib.hid (Ha_1.out.below (hbW2.mono HBB_1.out))
  have HBB_2 : Hid (B ≤ W2.heap.size) := Lib.hid (Nat.le_trans HBB_1.out hbW2.size)
  have HG_2 := Lib.hid (HG_1.out.below hbW2)
  have HB_2 := Lib.hid (HB_1.out.trans (hbW2.mono HB_1.out.size))
  have Pp_2 := Lib.hid (Pp_1.out.below hbW2 Pp_1.out.lt)
  have Pc_2 := Lib.hid (hnc)
  clear hbW2 hnc
  obtain ⟨gr, hgr⟩ : ∃ g, W2.heap.size = g := ⟨_, rfl⟩
  obtain ⟨W3, hW3⟩ : ∃ X, W2.alloc (.cells #[.int .i64 0, .slice none 0 0] 24) = X := ⟨_, rfl⟩
  have hbW3 : Below W2.heap.size W2 W3 := hW3 ▸ (Below.refl _ _).alloc (Nat.le_refl _) _
  have hnr : Blk W3 gr 24 #[.int .i64 0, .slice none 0 0] := by rw [← hW3]; exact blkNew hgr
  have Ha_3 := Lib.hid (Ha_2.out.below (hbW3.mono HBB_2.out))
  have HBB_3 : Hid (B ≤ W3.heap.size) := Lib.hid (Nat.le_trans HBB_2.out hbW3.size)
  have HG_3 := Lib.hid (HG_2.out.below hbW3)
  have HB_3 := Lib.hid (HB_2.out.trans (hbW3.mono HB_2.out.size))
  have Pp_3 := Lib.hid (Pp_2.out.below hbW3 Pp_2.out.lt)
  have Pc_3 := Lib.hid (Pc_2.out.below hbW3 Pc_2.out.lt)
  have Pr_3 := Lib.hid (hnr)
  clear hbW3 hnr
  have hge : w.heap.size ≤ gr := by rw [← hgr]; exact HB_2.out.size
  have HGE := Lib.hid hge
  clear hge
  have cPp0_3 : W3.cell? ⟨gp, 0, none⟩ = some (.int .i64 a) := Pp_3.out.cell 0
  have cPp1_3 : W3.cell? ⟨gp, 1, none⟩ = some (.slice A l.length c) := Pp_3.out.cell 1
  have cPc0_3 : W3.cell? ⟨gc, 0, none⟩ = some (.int .i64 k) := Pc_3.out.cell 0
  have cPc1_3 : W3.cell? ⟨gc, 1, none⟩ = some (.int .i64 q) := Pc_3.out.cell 1
  have cPc2_3 : W3.cell? ⟨gc, 2, none⟩ = some (.int .i64 n) := Pc_3.out.cell 2
  by_cases h0 : k = 0
  · subst h0
    have hs : askS 0 a l q n = creditS a l q := by unfold askS; simp []
    obtain ⟨⟨re, rp, ra, rl⟩, hr⟩ : ∃ r, creditS a l q = r := ⟨_, rfl⟩
    rw [hs, hr]
    have HRR := Lib.hid hr
    clear hs hr
    go_enter Tryd.func26, Tryd.ntmps26
    go_wp2_with (go_at_call 30; refine (credit_calls a l A c B q W3 Ha_3.out HBB_3.out HG_3.out hq).mono ?_; rintro e wx hres; rw [HRR.out] at hres; obtain ⟨hbx, vx, rfl, hmx⟩ := hres; obtain ⟨AX, cx, rfl⟩ := own_slice hmx; dsimp only at hmx ⊢; obtain ⟨ev, hev⟩ : ∃ v, outV (re, rp) = v := ⟨_, rfl⟩; rw [hev]; have HEV := Lib.hid hev; clear hev; have hrx := Pr_3.out.below hbx Pr_3.out.lt; have HRX := Lib.hid hrx; have HMX := Lib.hid (hmx.base HB_3.out.size); have HBX := Lib.hid (HB_3.out.trans (hbx.mono HB_3.out.size)); have m0 : wx.cell? ⟨gr, 0, none⟩ = some (.int .i64 0) := hrx.cell 0; have m1 : wx.cell? ⟨gr, 1, none⟩ = some (.slice none 0 0) := hrx.cell 1; have z0 := hrx.frozen 0; have z1 := hrx.frozen 1; clear hbx hrx hmx)
    have hrr := (HRX.out.set_ 0 (.int .i64 ra)).set_ 1 (.slice AX rl.length cx)
    refine ⟨rfl, _, results_cell_tmp Tryd.results26 rfl [.int .i64 ra, .slice AX rl.length cx] hrr Tryd.underlying24 rfl Tryd.sizeP, ?_⟩
    exact ⟨(HBX.out.setCell (p := ⟨gr, 0, none⟩) HGE.out _).setCell (p := ⟨gr, 1, none⟩) HGE.out _, _, by rw [show outV ((⟨re, rp, ra, rl⟩ : Res).e, (⟨re, rp, ra, rl⟩ : Res).pl) = ev from HEV.out]; rfl, (HMX.out.far HRX.out _ _).far (HRX.out.set_ 0 _) _ _⟩
  · have e0 : (k == 0) = false := by simpa using h0
    by_cases h1 : k = 1
    · subst h1
      have hs : askS 1 a l q n = debitS a l q n := by unfold askS; simp []
      obtain ⟨⟨re, rp, ra, rl⟩, hr⟩ : ∃ r, debitS a l q n = r := ⟨_, rfl⟩
      rw [hs, hr]
      have HRR := Lib.hid hr
      clear hs hr
      go_enter Tryd.func26, Tryd.ntmps26
      go_wp2_with (go_at_call 24; refine (debit_calls a l A c B q n W3 Ha_3.out HBB_3.out HG_3.out hq).mono ?_; rintro e wx hres; rw [HRR.out] at hres; obtain ⟨hbx, vx, rfl, hmx⟩ := hres; obtain ⟨AX, cx, rfl⟩ := own_slice hmx; dsimp only at hmx ⊢; obtain ⟨ev, hev⟩ : ∃ v, outV (re, rp) = v := ⟨_, rfl⟩; rw [hev]; have HEV := Lib.hid hev; clear hev; have hrx := Pr_3.out.below hbx Pr_3.out.lt; have HRX := Lib.hid hrx; have HMX := Lib.hid (hmx.base HB_3.out.size); have HBX := Lib.hid (HB_3.out.trans (hbx.mono HB_3.out.size)); have m0 : wx.cell? ⟨gr, 0, none⟩ = some (.int .i64 0) := hrx.cell 0; have m1 : wx.cell? ⟨gr, 1, none⟩ = some (.slice none 0 0) := hrx.cell 1; have z0 := hrx.frozen 0; have z1 := hrx.frozen 1; clear hbx hrx hmx)
      have hrr := (HRX.out.set_ 0 (.int .i64 ra)).set_ 1 (.slice AX rl.length cx)
      refine ⟨rfl, _, results_cell_tmp Tryd.results26 rfl [.int .i64 ra, .slice AX rl.length cx] hrr Tryd.underlying24 rfl Tryd.sizeP, ?_⟩
      exact ⟨(HBX.out.setCell (p := ⟨gr, 0, none⟩) HGE.out _).setCell (p := ⟨gr, 1, none⟩) HGE.out _, _, by rw [show outV ((⟨re, rp, ra, rl⟩ : Res).e, (⟨re, rp, ra, rl⟩ : Res).pl) = ev from HEV.out]; rfl, (HMX.out.far HRX.out _ _).far (HRX.out.set_ 0 _) _ _⟩
    · have e1 : (k == 1) = false := by simpa using h1
      by_cases h2 : k = 2
      · subst h2
        have hs : askS 2 a l q n = markS a l q n := by unfold askS; simp []
        obtain ⟨⟨re, rp, ra, rl⟩, hr⟩ : ∃ r, markS a l q n = r := ⟨_, rfl⟩
        rw [hs, hr]
        have HRR := Lib.hid hr
        clear hs hr
        go_enter Tryd.func26, Tryd.ntmps26
        go_wp2_with (go_at_call 28; refine (markX_calls a l A c B q n W3 Ha_3.out HBB_3.out HG_3.out hq).mono ?_; rintro e wx hres; rw [HRR.out] at hres; obtain ⟨hbx, vx, rfl, hmx⟩ := hres; obtain ⟨AX, cx, rfl⟩ := own_slice hmx; dsimp only at hmx ⊢; obtain ⟨ev, hev⟩ : ∃ v, outV (re, rp) = v := ⟨_, rfl⟩; rw [hev]; have HEV := Lib.hid hev; clear hev; have hrx := Pr_3.out.below hbx Pr_3.out.lt; have HRX := Lib.hid hrx; have HMX := Lib.hid (hmx.base HB_3.out.size); have HBX := Lib.hid (HB_3.out.trans (hbx.mono HB_3.out.size)); have m0 : wx.cell? ⟨gr, 0, none⟩ = some (.int .i64 0) := hrx.cell 0; have m1 : wx.cell? ⟨gr, 1, none⟩ = some (.slice none 0 0) := hrx.cell 1; have z0 := hrx.frozen 0; have z1 := hrx.frozen 1; clear hbx hrx hmx)
        have hrr := (HRX.out.set_ 0 (.int .i64 ra)).set_ 1 (.slice AX rl.length cx)
        refine ⟨rfl, _, results_cell_tmp Tryd.results26 rfl [.int .i64 ra, .slice AX rl.length cx] hrr Tryd.underlying24 rfl Tryd.sizeP, ?_⟩
        exact ⟨(HBX.out.setCell (p := ⟨gr, 0, none⟩) HGE.out _).setCell (p := ⟨gr, 1, none⟩) HGE.out _, _, by rw [show outV ((⟨re, rp, ra, rl⟩ : Res).e, (⟨re, rp, ra, rl⟩ : Res).pl) = ev from HEV.out]; rfl, (HMX.out.far HRX.out _ _).far (HRX.out.set_ 0 _) _ _⟩
      · have e2 : (k == 2) = false := by simpa using h2
        have hs : askS k a l q n = unmarkS a l q n := by unfold askS; simp [h0, h1, h2]
        obtain ⟨⟨re, rp, ra, rl⟩, hr⟩ : ∃ r, unmarkS a l q n = r := ⟨_, rfl⟩
        rw [hs, hr]
        have HRR := Lib.hid hr
        clear hs hr
        go_enter Tryd.func26, Tryd.ntmps26
        go_wp2_with (go_at_call 29; refine (unmark_calls a l A c B q n W3 Ha_3.out HBB_3.out HG_3.out hq).mono ?_; rintro e wx hres; rw [HRR.out] at hres; obtain ⟨hbx, vx, rfl, hmx⟩ := hres; obtain ⟨AX, cx, rfl⟩ := own_slice hmx; dsimp only at hmx ⊢; obtain ⟨ev, hev⟩ : ∃ v, outV (re, rp) = v := ⟨_, rfl⟩; rw [hev]; have HEV := Lib.hid hev; clear hev; have hrx := Pr_3.out.below hbx Pr_3.out.lt; have HRX := Lib.hid hrx; have HMX := Lib.hid (hmx.base HB_3.out.size); have HBX := Lib.hid (HB_3.out.trans (hbx.mono HB_3.out.size)); have m0 : wx.cell? ⟨gr, 0, none⟩ = some (.int .i64 0) := hrx.cell 0; have m1 : wx.cell? ⟨gr, 1, none⟩ = some (.slice none 0 0) := hrx.cell 1; have z0 := hrx.frozen 0; have z1 := hrx.frozen 1; clear hbx hrx hmx)
        have hrr := (HRX.out.set_ 0 (.int .i64 ra)).set_ 1 (.slice AX rl.length cx)
        refine ⟨rfl, _, results_cell_tmp Tryd.results26 rfl [.int .i64 ra, .slice AX rl.length cx] hrr Tryd.underlying24 rfl Tryd.sizeP, ?_⟩
        exact ⟨(HBX.out.setCell (p := ⟨gr, 0, none⟩) HGE.out _).setCell (p := ⟨gr, 1, none⟩) HGE.out _, _, by rw [show outV ((⟨re, rp, ra, rl⟩ : Res).e, (⟨re, rp, ra, rl⟩ : Res).pl) = ev from HEV.out]; rfl, (HMX.out.far HRX.out _ _).far (HRX.out.set_ 0 _) _ _⟩

set_option maxRecDepth 100000 in
set_option maxHeartbeats 4000000 in
theorem tell_calls (k a : Int) (l : List Mk) (A : Option Addr) (c B : Nat) (q n : Int) (w : World) (h : PosOK w B a l A) (hB : B ≤ w.heap.size) (hG : HG w) (hq : q ≤ 9223372036854775807) :
    Calls Tryd.prog 25 #[.agg #[.int .i64 a, .slice A l.length c], .agg #[.int .i64 k, .int .i64 q, .int .i64 n]] w (RefTo w (askS k a l q n)) := by
  have Ha_0 := Lib.hid (h)
  have HBB_0 : Hid (B ≤ w.heap.size) := Lib.hid (hB)
  have HG_0 := Lib.hid (hG)
  have HB_0 := Lib.hid (Below.refl w.heap.size w)
  clear h hB hG
  obtain ⟨gp, hgp⟩ : ∃ g, w.heap.size = g := ⟨_, rfl⟩
  obtain ⟨W1, hW1⟩ : ∃ X, w.alloc (.cells #[.int .i64 a, .slice A l.length c] 24) = X := ⟨_, rfl⟩
  have hbW1 : Below w.heap.size w W1 := hW1 ▸ (Below.refl _ _).alloc (Nat.le_refl _) _
  have hnp : Blk W1 gp 24 #[.int .i64 a, .slice A l.length c] := by rw [← hW1]; exact blkNew hgp
  have Ha_1 := Lib.hid (Ha_0.out.below (hbW1.mono HBB_0.out))
  have HBB_1 : Hid (B ≤ W1.heap.size) := Lib.hid (Nat.le_trans HBB_0.out hbW1.size)
  have HG_1 := Lib.hid (HG_0.out.below hbW1)
  have HB_1 := Lib.hid (HB_0.out.trans (hbW1.mono HB_0.out.size))
  have Pp_1 := Lib.hid (hnp)
  clear hbW1 hnp
  obtain ⟨gc, hgc⟩ : ∃ g, W1.heap.size = g := ⟨_, rfl⟩
  obtain ⟨W2, hW2⟩ : ∃ X, W1.alloc (.cells #[.int .i64 k, .int .i64 q, .int .i64 n] 43) = X := ⟨_, rfl⟩
  have hbW2 : Below W1.heap.size W1 W2 := hW2 ▸ (Below.refl _ _).alloc (Nat.le_refl _) _
  have hnc : Blk W2 gc 43 #[.int .i64 k, .int .i64 q, .int .i64 n] := by rw [← hW2]; exact blkNew hgc
  have Ha_2 := Lib.hid (Ha_1.out.below (hbW2.mono HBB_1.out))
  have HBB_2 : Hid (B ≤ W2.heap.size) := Lib.hid (Nat.le_trans HBB_1.out hbW2.size)
  have HG_2 := Lib.hid (HG_1.out.below hbW2)
  have HB_2 := Lib.hid (HB_1.out.trans (hbW2.mono HB_1.out.size))
  have Pp_2 := Lib.hid (Pp_1.out.below hbW2 Pp_1.out.lt)
  have Pc_2 := Lib.hid (hnc)
  clear hbW2 hnc
  obtain ⟨gr, hgr⟩ : ∃ g, W2.heap.size = g := ⟨_, rfl⟩
  obtain ⟨W3, hW3⟩ : ∃ X, W2.alloc (.cells #[.int .i64 0, .slice none 0 0] 24) = X := ⟨_, rfl⟩
  have hbW3 : Below W2.heap.size W2 W3 := hW3 ▸ (Below.refl _ _).alloc (Nat.le_refl _) _
  have hnr : Blk W3 gr 24 #[.int .i64 0, .slice none 0 0] := by rw [← hW3]; exact blkNew hgr
  have Ha_3 := Lib.hid (Ha_2.out.below (hbW3.mono HBB_2.out))
  have HBB_3 : Hid (B ≤ W3.heap.size) := Lib.hid (Nat.le_trans HBB_2.out hbW3.size)
  have HG_3 := Lib.hid (HG_2.out.below hbW3)
  have HB_3 := Lib.hid (HB_2.out.trans (hbW3.mono HB_2.out.size))
  have Pp_3 := Lib.hid (Pp_2.out.below hbW3 Pp_2.out.lt)
  have Pc_3 := Lib.hid (Pc_2.out.below hbW3 Pc_2.out.lt)
  have Pr_3 := Lib.hid (hnr)
  clear hbW3 hnr
  have hge : w.heap.size ≤ gr := by rw [← hgr]; exact HB_2.out.size
  have HGE := Lib.hid hge
  clear hge
  have cPp0_3 : W3.cell? ⟨gp, 0, none⟩ = some (.int .i64 a) := Pp_3.out.cell 0
  have cPp1_3 : W3.cell? ⟨gp, 1, none⟩ = some (.slice A l.length c) := Pp_3.out.cell 1
  have cPc0_3 : W3.cell? ⟨gc, 0, none⟩ = some (.int .i64 k) := Pc_3.out.cell 0
  have cPc1_3 : W3.cell? ⟨gc, 1, none⟩ = some (.int .i64 q) := Pc_3.out.cell 1
  have cPc2_3 : W3.cell? ⟨gc, 2, none⟩ = some (.int .i64 n) := Pc_3.out.cell 2
  by_cases h0 : k = 0
  · subst h0
    have hs : askS 0 a l q n = creditS a l q := by unfold askS; simp []
    obtain ⟨⟨re, rp, ra, rl⟩, hr⟩ : ∃ r, creditS a l q = r := ⟨_, rfl⟩
    rw [hs, hr]
    have HRR := Lib.hid hr
    clear hs hr
    go_enter Tryd.func25, Tryd.ntmps25
    go_wp2_with (go_at_call 46; refine (rcredit_calls a l A c B q W3 Ha_3.out HBB_3.out HG_3.out hq).mono ?_; rintro e wx hres; rw [HRR.out] at hres; obtain ⟨hbx, AX, cx, rfl, hmx⟩ := hres; dsimp only at hmx ⊢; have hrx := Pr_3.out.below hbx Pr_3.out.lt; have HRX := Lib.hid hrx; have HMX := Lib.hid (hmx.base HB_3.out.size); have HBX := Lib.hid (HB_3.out.trans (hbx.mono HB_3.out.size)); have m0 : wx.cell? ⟨gr, 0, none⟩ = some (.int .i64 0) := hrx.cell 0; have m1 : wx.cell? ⟨gr, 1, none⟩ = some (.slice none 0 0) := hrx.cell 1; have z0 := hrx.frozen 0; have z1 := hrx.frozen 1; clear hbx hrx hmx)
    have hrr := (HRX.out.set_ 0 (.int .i64 ra)).set_ 1 (.slice AX rl.length cx)
    refine ⟨rfl, _, results_cell_tmp Tryd.results25 rfl [.int .i64 ra, .slice AX rl.length cx] hrr Tryd.underlying24 rfl Tryd.sizeP, ?_⟩
    exact ⟨(HBX.out.setCell (p := ⟨gr, 0, none⟩) HGE.out _).setCell (p := ⟨gr, 1, none⟩) HGE.out _, _, _, rfl, (HMX.out.far HRX.out _ _).far (HRX.out.set_ 0 _) _ _⟩
  · have e0 : (k == 0) = false := by simpa using h0
    by_cases h1 : k = 1
    · subst h1
      have hs : askS 1 a l q n = debitS a l q n := by unfold askS; simp []
      obtain ⟨⟨re, rp, ra, rl⟩, hr⟩ : ∃ r, debitS a l q n = r := ⟨_, rfl⟩
      rw [hs, hr]
      have HRR := Lib.hid hr
      clear hs hr
      go_enter Tryd.func25, Tryd.ntmps25
      go_wp2_with (go_at_call 47; refine (rdebit_calls a l A c B q n W3 Ha_3.out HBB_3.out HG_3.out hq).mono ?_; rintro e wx hres; rw [HRR.out] at hres; obtain ⟨hbx, AX, cx, rfl, hmx⟩ := hres; dsimp only at hmx ⊢; have hrx := Pr_3.out.below hbx Pr_3.out.lt; have HRX := Lib.hid hrx; have HMX := Lib.hid (hmx.base HB_3.out.size); have HBX := Lib.hid (HB_3.out.trans (hbx.mono HB_3.out.size)); have m0 : wx.cell? ⟨gr, 0, none⟩ = some (.int .i64 0) := hrx.cell 0; have m1 : wx.cell? ⟨gr, 1, none⟩ = some (.slice none 0 0) := hrx.cell 1; have z0 := hrx.frozen 0; have z1 := hrx.frozen 1; clear hbx hrx hmx)
      have hrr := (HRX.out.set_ 0 (.int .i64 ra)).set_ 1 (.slice AX rl.length cx)
      refine ⟨rfl, _, results_cell_tmp Tryd.results25 rfl [.int .i64 ra, .slice AX rl.length cx] hrr Tryd.underlying24 rfl Tryd.sizeP, ?_⟩
      exact ⟨(HBX.out.setCell (p := ⟨gr, 0, none⟩) HGE.out _).setCell (p := ⟨gr, 1, none⟩) HGE.out _, _, _, rfl, (HMX.out.far HRX.out _ _).far (HRX.out.set_ 0 _) _ _⟩
    · have e1 : (k == 1) = false := by simpa using h1
      by_cases h2 : k = 2
      · subst h2
        have hs : askS 2 a l q n = markS a l q n := by unfold askS; simp []
        obtain ⟨⟨re, rp, ra, rl⟩, hr⟩ : ∃ r, markS a l q n = r := ⟨_, rfl⟩
        rw [hs, hr]
        have HRR := Lib.hid hr
        clear hs hr
        go_enter Tryd.func25, Tryd.ntmps25
        go_wp2_with (go_at_call 48; refine (rmark_calls a l A c B q n W3 Ha_3.out HBB_3.out HG_3.out hq).mono ?_; rintro e wx hres; rw [HRR.out] at hres; obtain ⟨hbx, AX, cx, rfl, hmx⟩ := hres; dsimp only at hmx ⊢; have hrx := Pr_3.out.below hbx Pr_3.out.lt; have HRX := Lib.hid hrx; have HMX := Lib.hid (hmx.base HB_3.out.size); have HBX := Lib.hid (HB_3.out.trans (hbx.mono HB_3.out.size)); have m0 : wx.cell? ⟨gr, 0, none⟩ = some (.int .i64 0) := hrx.cell 0; have m1 : wx.cell? ⟨gr, 1, none⟩ = some (.slice none 0 0) := hrx.cell 1; have z0 := hrx.frozen 0; have z1 := hrx.frozen 1; clear hbx hrx hmx)
        have hrr := (HRX.out.set_ 0 (.int .i64 ra)).set_ 1 (.slice AX rl.length cx)
        refine ⟨rfl, _, results_cell_tmp Tryd.results25 rfl [.int .i64 ra, .slice AX rl.length cx] hrr Tryd.underlying24 rfl Tryd.sizeP, ?_⟩
        exact ⟨(HBX.out.setCell (p := ⟨gr, 0, none⟩) HGE.out _).setCell (p := ⟨gr, 1, none⟩) HGE.out _, _, _, rfl, (HMX.out.far HRX.out _ _).far (HRX.out.set_ 0 _) _ _⟩
      · have e2 : (k == 2) = false := by simpa using h2
        have hs : askS k a l q n = unmarkS a l q n := by unfold askS; simp [h0, h1, h2]
        obtain ⟨⟨re, rp, ra, rl⟩, hr⟩ : ∃ r, unmarkS a l q n = r := ⟨_, rfl⟩
        rw [hs, hr]
        have HRR := Lib.hid hr
        clear hs hr
        go_enter Tryd.func25, Tryd.ntmps25
        go_wp2_with (go_at_call 49; refine (runmark_calls a l A c B q n W3 Ha_3.out HBB_3.out HG_3.out hq).mono ?_; rintro e wx hres; rw [HRR.out] at hres; obtain ⟨hbx, AX, cx, rfl, hmx⟩ := hres; dsimp only at hmx ⊢; have hrx := Pr_3.out.below hbx Pr_3.out.lt; have HRX := Lib.hid hrx; have HMX := Lib.hid (hmx.base HB_3.out.size); have HBX := Lib.hid (HB_3.out.trans (hbx.mono HB_3.out.size)); have m0 : wx.cell? ⟨gr, 0, none⟩ = some (.int .i64 0) := hrx.cell 0; have m1 : wx.cell? ⟨gr, 1, none⟩ = some (.slice none 0 0) := hrx.cell 1; have z0 := hrx.frozen 0; have z1 := hrx.frozen 1; clear hbx hrx hmx)
        have hrr := (HRX.out.set_ 0 (.int .i64 ra)).set_ 1 (.slice AX rl.length cx)
        refine ⟨rfl, _, results_cell_tmp Tryd.results25 rfl [.int .i64 ra, .slice AX rl.length cx] hrr Tryd.underlying24 rfl Tryd.sizeP, ?_⟩
        exact ⟨(HBX.out.setCell (p := ⟨gr, 0, none⟩) HGE.out _).setCell (p := ⟨gr, 1, none⟩) HGE.out _, _, _, rfl, (HMX.out.far HRX.out _ _).far (HRX.out.set_ 0 _) _ _⟩

end Go.Proofs.YtcgcgekefhhjhaaDoor
