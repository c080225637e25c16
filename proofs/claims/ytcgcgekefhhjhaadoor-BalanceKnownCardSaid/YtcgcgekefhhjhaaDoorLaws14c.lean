/- The walk of the law BalanceMoves (printed by gen_laws14c.py). -/
import Derived.Test.YtcgcgekefhhjhaaDoorLaws14e
import Derived.Test.YtcgcgekefhhjhaaDoorApartMarks
namespace Go.Proofs.YtcgcgekefhhjhaaDoor
set_option linter.unusedSimpArgs false
set_option linter.unusedVariables false
open Go.RowKit

theorem begin_fits (a : Int) (l : List Mk) (q n least : Int) : fitsE a l (beginS a l q n least) := by
  unfold beginS
  split
  · rename_i h
    split
    · exact .inr ⟨h, rfl, by decide, by decide⟩
    · split
      · exact .inr ⟨h, rfl, by decide, by decide⟩
      · exact .inr ⟨h, rfl, by decide, by decide⟩
  · rename_i h
    exact .inl ⟨h, by unfold chk; rw [if_neg h]⟩
theorem bad_fits {a : Int} {l : List Mk} {b : Int × Option Int} (h : fitsE a l b) : fitsE a l ((Res.bad b).e, (Res.bad b).pl) := h
theorem ask_fits (k a q n : Int) (l : List Mk) : fitsE a l ((askS k a l q n).e, (askS k a l q n).pl) := by
  have ok : ∀ (e : Int), 0 ≤ e → e ≤ 24 → ∀ least, (beginS a l q n least).1 = 0 → fitsE a l (e, none) := fun e h1 h2 least hb => .inr ⟨(begin_zero hb).1, rfl, h1, h2⟩
  have ok0 : ∀ (e : Int), 0 ≤ e → e ≤ 24 → (beginS a l q 0 0).1 = 0 → fitsE a l (e, none) := fun e h1 h2 hb => .inr ⟨(begin_zero hb).1, rfl, h1, h2⟩
  unfold askS
  split
  · unfold creditS
    split
    · rename_i hb
      split
      · exact ok0 9 (by decide) (by decide) hb
      · exact ok0 0 (by decide) (by decide) hb
    · exact bad_fits (begin_fits _ _ _ _ _)
  · split
    · unfold debitS
      split
      · rename_i hb
        split
        · exact ok 18 (by decide) (by decide) 0 hb
        · exact ok 0 (by decide) (by decide) 0 hb
      · exact bad_fits (begin_fits _ _ _ _ _)
    · split
      · unfold markS
        split
        · rename_i hb
          split
          · exact ok 18 (by decide) (by decide) 1 hb
          · split
            · exact ok 5 (by decide) (by decide) 1 hb
            · exact ok 0 (by decide) (by decide) 1 hb
        · exact bad_fits (begin_fits _ _ _ _ _)
      · unfold unmarkS
        split
        · rename_i hb
          split
          · exact ok 19 (by decide) (by decide) 1 hb
          · split
            · exact ok 18 (by decide) (by decide) 1 hb
            · exact ok 0 (by decide) (by decide) 1 hb
        · exact bad_fits (begin_fits _ _ _ _ _)
theorem ask_len {k a q n : Int} {l : List Mk} (ha : a ≤ MaxA) : (askS k a l q n).l.length ≤ 8 := by
  by_cases hz : (askS k a l q n).e = 0
  · have hr : Right a l := by
      unfold askS at hz
      split at hz
      · exact (credit_zero ha hz).1
      · split at hz
        · exact (debit_zero ha hz).1
        · split at hz
          · exact (mark_zero ha hz).1
          · exact (unmark_zero ha hz).1
    exact (ask_good hr hz).1.len
  · rw [(ask_bad hz).2]; simp
theorem marksC_set (ms : List Mk) {k : Nat} (hk : k < ms.length) (x : Mk) : marksC (ms.set k x) = ((marksC ms).set (k * 2) (.int .i64 x.m)).set (k * 2 + 1) (.int .i64 x.q) := by
  induction ms generalizing k with
  | nil => simp at hk
  | cons y ms ih =>
    cases k with
    | zero => simp [marksC, Mk.cs]
    | succ k =>
      have h := ih (k := k) (by simpa using hk)
      rw [List.set_cons_succ, marksC_cons, marksC_cons, h]
      have e1 : (k + 1) * 2 = y.cs.length + k * 2 := by rw [Mk.len]; omega
      have e2 : (k + 1) * 2 + 1 = y.cs.length + (k * 2 + 1) := by rw [Mk.len]; omega
      rw [e2, e1, List.set_append_right _ _ (by omega), List.set_append_right _ _ (by omega)]
      congr 2
      · congr 1
        · omega
      · omega
theorem own_set {w : World} {base g N c : Nat} {ms : List Mk} (h : w.ownsRow base 37 2 (.slice (some ⟨g, 0, none⟩) N c) N (marksC ms)) {k : Nat} (hN : N = ms.length) (hk : k < ms.length) (x : Mk) :
    ((w.setCell ⟨g, k * 2, none⟩ (.int .i64 x.m)).setCell ⟨g, k * 2 + 1, none⟩ (.int .i64 x.q)).ownsRow base 37 2 (.slice (some ⟨g, 0, none⟩) N c) N (marksC (ms.set k x)) := by
  obtain ⟨g', cap, cur, hv, hBg, hg, hnc, hcm, hcs, htk⟩ := own_row h (by omega)
  injection hv with hv1 hv2 hv3
  injection hv1 with hv1
  injection hv1 with hv1 _ _
  subst hv1 hv3
  refine ⟨by rw [marksC_len, List.length_set, hN], .inr ⟨g, c, (cur.setIfInBounds (k * 2) (.int .i64 x.m)).setIfInBounds (k * 2 + 1) (.int .i64 x.q), rfl, hBg, (hg.set_ _ _).set_ _ _, hnc, hcm, by simpa using hcs, ?_⟩⟩
  rw [Array.toList_setIfInBounds, Array.toList_setIfInBounds, List.take_set, List.take_set, htk, marksC_set _ hk]
theorem own_cells {w : World} {base g N c : Nat} {ms : List Mk} (h : w.ownsRow base 37 2 (.slice (some ⟨g, 0, none⟩) N c) N (marksC ms)) {k : Nat} (hk : k < N) :
    (∃ u, w.cell? ⟨g, k * 2, none⟩ = some u) ∧ (∃ u, w.cell? ⟨g, k * 2 + 1, none⟩ = some u) ∧ w.frozen? ⟨g, k * 2, none⟩ = false ∧ w.frozen? ⟨g, k * 2 + 1, none⟩ = false := by
  obtain ⟨g', cap, cur, hv, hBg, hg, hnc, hcm, hcs, htk⟩ := own_row h (by omega)
  injection hv with hv1 hv2 hv3
  injection hv1 with hv1
  injection hv1 with hv1 _ _
  subst hv1 hv3
  refine ⟨?_, ?_, hg.frozen _, hg.frozen _⟩
  · rw [hg.cell, Array.getElem?_eq_getElem (by omega)]; exact ⟨_, rfl⟩
  · rw [hg.cell, Array.getElem?_eq_getElem (by omega)]; exact ⟨_, rfl⟩
theorem OwnM.grown {w w' : World} {B : Nat} {v : Value} {l : List Mk} {row : Option Nat} (h : OwnM w B v l) (hg : w.grownBy w' row) (hn : ∀ k, v.ownBlock = some k → row ≠ some k) : OwnM w' B v l := by
  refine ⟨h.1, ?_⟩
  rcases h.2 with h0 | ⟨g, cap, cur, rfl, h1, h2, h3⟩
  · exact .inl h0
  · exact .inr ⟨g, cap, cur, rfl, h1, (hg.block g (Array.getElem?_eq_some_iff.1 h2).1 (fun e => hn g rfl e.symm)).trans h2, h3⟩
theorem own_blk_neq {w : World} {base N c g g0 : Nat} {xs : List Value} {t : TypeId} {cs : Array Value} (h : w.ownsRow base 37 2 (.slice (some ⟨g, 0, none⟩) N c) N xs) (hb : Blk w g0 t cs) (ht : 37 ≠ t) : g ≠ g0 := fun e => own_ne h hb ht (by rw [e]; rfl)
theorem reads_low {w : World} {B B' : Nat} {g n : Nat} {xs : List Value} (h : Reads w B 2 (some ⟨g, 0, none⟩) n xs) (hg : g < B') : Reads w B' 2 (some ⟨g, 0, none⟩) n xs := ⟨h.1, fun h0 => by
  obtain ⟨ad, e, _, hc⟩ := h.2 h0
  injection e with e
  subst e
  exact ⟨_, rfl, hg, hc⟩⟩
theorem fil0 {w : World} {B B' : Nat} {v : Value} {l : List Mk} {ow : Nat → Nat} {k : Nat} (h : OwnM w B v l) (hB : B' ≤ B) (how : ∀ b, v.ownBlock = some b → ow b = k) : Fil marksMark 37 ow B' w v k l.length 0 := by
  rcases h.2 with h0 | ⟨g, cap, cur, rfl, h1, h2, h3, h4, h5, _⟩
  · exact .inl h0
  · exact .inr ⟨g, cap, cur, rfl, Nat.le_trans hB h1, how g rfl, h2, by omega, h3, h4, Nat.zero_le _, fun i hi => by omega⟩

set_option maxRecDepth 100000 in
set_option maxHeartbeats 4000000 in
theorem lawMoves_calls (a : Int) (l : List Mk) (A : Option Addr) (c B : Nat) (ck q n : Int) (w : World) (h1 : PosOK w B a l A) (hB : B ≤ w.heap.size) (hG : HG w) (hq : q ≤ 9223372036854775807) :
    Calls Tryd.prog 6 #[.agg #[.int .i64 a, .slice A l.length c], .agg #[.int .i64 ck, .int .i64 q, .int .i64 n]] w fun e w' => e = .returned (.bool true) ∧ Below w.heap.size w w' := by
  have hln := h1.len
  have HLN := Lib.hid hln
  obtain ⟨⟨re, rp, ra, rl⟩, hr⟩ : ∃ r, askS ck a l q n = r := ⟨_, rfl⟩
  have HRR := Lib.hid hr
  have HFT : Hid (fitsE a l (re, rp)) := by have := ask_fits ck a q n l; rw [hr] at this; exact this
  have HRL : Hid (rl.length ≤ 8) := by have := ask_len (k := ck) (q := q) (n := n) (l := l) (show a ≤ MaxA from h1.a1); rw [hr] at this; exact this
  clear hr
  have Ha_0 := Lib.hid (h1)
  have HBB_0 : Hid (B ≤ w.heap.size) := Lib.hid (hB)
  have HG_0 := Lib.hid (hG)
  have HB_0 := Lib.hid (Below.refl w.heap.size w)
  have HB00 := Lib.hid hB
  clear h1 hB hG
  obtain ⟨ga, hga⟩ : ∃ g, w.heap.size = g := ⟨_, rfl⟩
  obtain ⟨W1, hW1⟩ : ∃ X, w.alloc (.cells #[.int .i64 a, .slice A l.length c] 24) = X := ⟨_, rfl⟩
  have hbW1 : Below w.heap.size w W1 := hW1 ▸ (Below.refl _ _).alloc (Nat.le_refl _) _
  have hna : Blk W1 ga 24 #[.int .i64 a, .slice A l.length c] := by rw [← hW1]; exact blkNew hga
  have Ha_1 := Lib.hid (Ha_0.out.below (hbW1.mono HBB_0.out))
  have HBB_1 : Hid (B ≤ W1.heap.size) := Lib.hid (Nat.le_trans HBB_0.out hbW1.size)
  have HG_1 := Lib.hid (HG_0.out.below hbW1)
  have HB_1 := Lib.hid (HB_0.out.trans (hbW1.mono HB_0.out.size))
  have Pa_1 := Lib.hid (hna)
  clear hbW1 hna
  obtain ⟨gc, hgc⟩ : ∃ g, W1.heap.size = g := ⟨_, rfl⟩
  obtain ⟨W2, hW2⟩ : ∃ X, W1.alloc (.cells #[.int .i64 ck, .int .i64 q, .int .i64 n] 43) = X := ⟨_, rfl⟩
  have hbW2 : Below W1.heap.size W1 W2 := hW2 ▸ (Below.refl _ _).alloc (Nat.le_refl _) _
  have hnc : Blk W2 gc 43 #[.int .i64 ck, .int .i64 q, .int .i64 n] := by rw [← hW2]; exact blkNew hgc
  have Ha_2 := Lib.hid (Ha_1.out.below (hbW2.mono HBB_1.out))
  have HBB_2 : Hid (B ≤ W2.heap.size) := Lib.hid (Nat.le_trans HBB_1.out hbW2.size)
  have HG_2 := Lib.hid (HG_1.out.below hbW2)
  have HB_2 := Lib.hid (HB_1.out.trans (hbW2.mono HB_1.out.size))
  have Pa_2 := Lib.hid (Pa_1.out.below hbW2 Pa_1.out.lt)
  have Pc_2 := Lib.hid (hnc)
  clear hbW2 hnc
  go_enter Tryd.func6, Tryd.ntmps6
  have cPa0_2 : W2.cell? ⟨ga, 0, none⟩ = some (.int .i64 a) := Pa_2.out.cell 0
  have cPa1_2 : W2.cell? ⟨ga, 1, none⟩ = some (.slice A l.length c) := Pa_2.out.cell 1
  have cPc0_2 : W2.cell? ⟨gc, 0, none⟩ = some (.int .i64 ck) := Pc_2.out.cell 0
  have cPc1_2 : W2.cell? ⟨gc, 1, none⟩ = some (.int .i64 q) := Pc_2.out.cell 1
  have cPc2_2 : W2.cell? ⟨gc, 2, none⟩ = some (.int .i64 n) := Pc_2.out.cell 2
  go_wp2_with (fail)
  refine (tell_calls ck a l A c B q n W2 Ha_2.out HBB_2.out HG_2.out hq).mono ?_
  rintro e w3 hres
  rw [HRR.out] at hres
  obtain ⟨hbw3, Aw, cw, rfl, hmw⟩ := hres
  dsimp only at hmw ⊢
  clear hW1 hga hW2 hgc cPa0_2 cPa1_2 cPc0_2 cPc1_2 cPc2_2
  have Ha_3 := Lib.hid (Ha_2.out.below (hbw3.mono HBB_2.out))
  have HBB_3 : Hid (B ≤ w3.heap.size) := Lib.hid (Nat.le_trans HBB_2.out hbw3.size)
  have HG_3 := Lib.hid (HG_2.out.below hbw3)
  have HB_3 := Lib.hid (HB_2.out.trans (hbw3.mono HB_2.out.size))
  have Pa_3 := Lib.hid (Pa_2.out.below hbw3 Pa_2.out.lt)
  have Pc_3 := Lib.hid (Pc_2.out.below hbw3 Pc_2.out.lt)
  clear hbw3
  have Mw_3 := Lib.hid (hmw)
  clear hmw
  obtain ⟨gw, hgw⟩ : ∃ g, w3.heap.size = g := ⟨_, rfl⟩
  obtain ⟨W4, hW4⟩ : ∃ X, w3.alloc (.cells #[.int .i64 ra, .slice Aw rl.length cw] 24) = X := ⟨_, rfl⟩
  have hbW4 : Below w3.heap.size w3 W4 := hW4 ▸ (Below.refl _ _).alloc (Nat.le_refl _) _
  have hnw : Blk W4 gw 24 #[.int .i64 ra, .slice Aw rl.length cw] := by rw [← hW4]; exact blkNew hgw
  have Ha_4 := Lib.hid (Ha_3.out.below (hbW4.mono HBB_3.out))
  have HBB_4 : Hid (B ≤ W4.heap.size) := Lib.hid (Nat.le_trans HBB_3.out hbW4.size)
  have HG_4 := Lib.hid (HG_3.out.below hbW4)
  have HB_4 := Lib.hid (HB_3.out.trans (hbW4.mono HB_3.out.size))
  have Pa_4 := Lib.hid (Pa_3.out.below hbW4 Pa_3.out.lt)
  have Pc_4 := Lib.hid (Pc_3.out.below hbW4 Pc_3.out.lt)
  have Mw_4 := Lib.hid (Mw_3.out.below hbW4)
  have Pw_4 := Lib.hid (hnw)
  clear hbW4 hnw
  obtain ⟨Bw, hBw⟩ : ∃ b, W4.heap.size = b := ⟨_, rfl⟩
  have HBW0 : Hid (Reads W4 Bw 2 Aw rl.length (marksC rl)) := by rw [← hBw]; exact Reads.of_own Mw_4.out
  have HWB : Hid (∀ k, (Value.slice Aw rl.length cw).ownBlock = some k → k < Bw) := by rw [← hBw]; exact fun k hk => (World.ownsRow.lt Mw_4.out k hk).2
  have HWLE : Hid (w.heap.size ≤ Bw) := by rw [← hBw]; exact HB_4.out.size
  have HBWS := Lib.hid hBw
  clear hBw
  have cPa0_4 : W4.cell? ⟨ga, 0, none⟩ = some (.int .i64 a) := Pa_4.out.cell 0
  have cPa1_4 : W4.cell? ⟨ga, 1, none⟩ = some (.slice A l.length c) := Pa_4.out.cell 1
  go_wp2_with (fail)
  refine (lentPos_calls a l A c B W4 Ha_4.out.r HBB_4.out HLN.out).mono ?_
  rintro e w5 ⟨g1, c1, rfl, hc1, howng, hbw5⟩
  clear hW4 hgw cPa0_4 cPa1_4
  have Ha_5 := Lib.hid (Ha_4.out.below (hbw5.mono HBB_4.out))
  have HBB_5 : Hid (B ≤ w5.heap.size) := Lib.hid (Nat.le_trans HBB_4.out hbw5.size)
  have HG_5 := Lib.hid (HG_4.out.below hbw5)
  have HB_5 := Lib.hid (HB_4.out.trans (hbw5.mono HB_4.out.size))
  have Pa_5 := Lib.hid (Pa_4.out.below hbw5 Pa_4.out.lt)
  have Pc_5 := Lib.hid (Pc_4.out.below hbw5 Pc_4.out.lt)
  have Mw_5 := Lib.hid (Mw_4.out.below hbw5)
  have Pw_5 := Lib.hid (Pw_4.out.below hbw5 Pw_4.out.lt)
  have HOBW : Hid (Bw ≤ g1) := by rw [← HBWS.out]; exact own_base howng rfl
  have HBWw : Hid (Below Bw W4 w5) := by rw [← HBWS.out]; exact hbw5
  have Ol_5 := Lib.hid (howng)
  have HC1 := Lib.hid hc1
  clear howng hc1 hbw5
  obtain ⟨gl, hgl⟩ : ∃ g, w5.heap.size = g := ⟨_, rfl⟩
  obtain ⟨W6, hW6⟩ : ∃ X, w5.alloc (.cells #[.int .i64 a, .slice (some ⟨g1, 0, none⟩) l.length c1] 24) = X := ⟨_, rfl⟩
  have hbW6 : Below w5.heap.size w5 W6 := hW6 ▸ (Below.refl _ _).alloc (Nat.le_refl _) _
  have hnl : Blk W6 gl 24 #[.int .i64 a, .slice (some ⟨g1, 0, none⟩) l.length c1] := by rw [← hW6]; exact blkNew hgl
  have Ha_6 := Lib.hid (Ha_5.out.below (hbW6.mono HBB_5.out))
  have HBB_6 : Hid (B ≤ W6.heap.size) := Lib.hid (Nat.le_trans HBB_5.out hbW6.size)
  have HG_6 := Lib.hid (HG_5.out.below hbW6)
  have HB_6 := Lib.hid (HB_5.out.trans (hbW6.mono HB_5.out.size))
  have Pa_6 := Lib.hid (Pa_5.out.below hbW6 Pa_5.out.lt)
  have Pc_6 := Lib.hid (Pc_5.out.below hbW6 Pc_5.out.lt)
  have Mw_6 := Lib.hid (Mw_5.out.below hbW6)
  have Pw_6 := Lib.hid (Pw_5.out.below hbW6 Pw_5.out.lt)
  have Ol_6 := Lib.hid (own_below Ol_5.out hbW6)
  have Pl_6 := Lib.hid (hnl)
  clear hbW6 hnl
  have cPa0_6 : W6.cell? ⟨ga, 0, none⟩ = some (.int .i64 a) := Pa_6.out.cell 0
  have cPa1_6 : W6.cell? ⟨ga, 1, none⟩ = some (.slice A l.length c) := Pa_6.out.cell 1
  have cPc0_6 : W6.cell? ⟨gc, 0, none⟩ = some (.int .i64 ck) := Pc_6.out.cell 0
  have cPc1_6 : W6.cell? ⟨gc, 1, none⟩ = some (.int .i64 q) := Pc_6.out.cell 1
  have cPc2_6 : W6.cell? ⟨gc, 2, none⟩ = some (.int .i64 n) := Pc_6.out.cell 2
  have cPl0_6 : W6.cell? ⟨gl, 0, none⟩ = some (.int .i64 a) := Pl_6.out.cell 0
  have cPl1_6 : W6.cell? ⟨gl, 1, none⟩ = some (.slice (some ⟨g1, 0, none⟩) l.length c1) := Pl_6.out.cell 1
  have HX : Hid (PosOK W6 W6.heap.size a l (some ⟨g1, 0, none⟩)) := ⟨reads_pre (lent_reads Ol_6.out) (by rw [markMarkss_len]), Ha_6.out.a1, Ha_6.out.q1, HLN.out⟩
  obtain ⟨Bx, hBx⟩ : ∃ b, W6.heap.size = b := ⟨_, rfl⟩
  have HG1x : Hid (g1 < Bx) := by rw [← hBx]; exact (World.ownsRow.lt Ol_6.out g1 rfl).2
  have HGL : Hid (gl < Bx) := by rw [← hBx]; exact Pl_6.out.lt
  have HGA : Hid (ga < Bx) := by rw [← hBx]; exact Pa_6.out.lt
  have HWX : Hid (w.heap.size ≤ Bx) := by rw [← hBx]; exact HB_6.out.size
  have SX_6 : Hid (Bx ≤ W6.heap.size) := Lib.hid (Nat.le_of_eq hBx.symm)
  go_wp2_with (fail)
  refine (ask_calls ck a l (some ⟨g1, 0, none⟩) c1 W6.heap.size q n W6 HX.out (Nat.le_refl _) HG_6.out hq).mono ?_
  rintro e w7 hres
  rw [HRR.out] at hres
  obtain ⟨hbw7, vx, rfl, hmx⟩ := hres
  dsimp only at hmx ⊢
  obtain ⟨Ax, cx, rfl⟩ := own_slice hmx
  rw [hBx] at hmx
  have HBSx := Lib.hid hBx
  clear HX hBx
  obtain ⟨ev, hev⟩ : ∃ v, outV (re, rp) = v := ⟨_, rfl⟩
  have HEV := Lib.hid hev
  rw [hev]
  clear hev
  clear hW6 hgl cPa0_6 cPa1_6 cPc0_6 cPc1_6 cPc2_6 cPl0_6 cPl1_6
  have Ha_7 := Lib.hid (Ha_6.out.below (hbw7.mono HBB_6.out))
  have HBB_7 : Hid (B ≤ w7.heap.size) := Lib.hid (Nat.le_trans HBB_6.out hbw7.size)
  have HG_7 := Lib.hid (HG_6.out.below hbw7)
  have HB_7 := Lib.hid (HB_6.out.trans (hbw7.mono HB_6.out.size))
  have Pa_7 := Lib.hid (Pa_6.out.below hbw7 Pa_6.out.lt)
  have Pc_7 := Lib.hid (Pc_6.out.below hbw7 Pc_6.out.lt)
  have Mw_7 := Lib.hid (Mw_6.out.below hbw7)
  have Pw_7 := Lib.hid (Pw_6.out.below hbw7 Pw_6.out.lt)
  have Ol_7 := Lib.hid (own_below Ol_6.out hbw7)
  have Pl_7 := Lib.hid (Pl_6.out.below hbw7 Pl_6.out.lt)
  have SX_7 : Hid (Bx ≤ w7.heap.size) := Lib.hid (Nat.le_trans SX_6.out hbw7.size)
  clear hbw7
  have Mx_7 := Lib.hid (hmx)
  clear hmx
  obtain ⟨gx, hgx⟩ : ∃ g, w7.heap.size = g := ⟨_, rfl⟩
  obtain ⟨W8, hW8⟩ : ∃ X, w7.alloc (.cells #[.int .i64 ra, .slice Ax rl.length cx] 24) = X := ⟨_, rfl⟩
  have hbW8 : Below w7.heap.size w7 W8 := hW8 ▸ (Below.refl _ _).alloc (Nat.le_refl _) _
  have hnx : Blk W8 gx 24 #[.int .i64 ra, .slice Ax rl.length cx] := by rw [← hW8]; exact blkNew hgx
  have Ha_8 := Lib.hid (Ha_7.out.below (hbW8.mono HBB_7.out))
  have HBB_8 : Hid (B ≤ W8.heap.size) := Lib.hid (Nat.le_trans HBB_7.out hbW8.size)
  have HG_8 := Lib.hid (HG_7.out.below hbW8)
  have HB_8 := Lib.hid (HB_7.out.trans (hbW8.mono HB_7.out.size))
  have Pa_8 := Lib.hid (Pa_7.out.below hbW8 Pa_7.out.lt)
  have Pc_8 := Lib.hid (Pc_7.out.below hbW8 Pc_7.out.lt)
  have Mw_8 := Lib.hid (Mw_7.out.below hbW8)
  have Pw_8 := Lib.hid (Pw_7.out.below hbW8 Pw_7.out.lt)
  have Ol_8 := Lib.hid (own_below Ol_7.out hbW8)
  have Pl_8 := Lib.hid (Pl_7.out.below hbW8 Pl_7.out.lt)
  have SX_8 : Hid (Bx ≤ W8.heap.size) := Lib.hid (Nat.le_trans SX_7.out hbW8.size)
  have Mx_8 := Lib.hid (Mx_7.out.below hbW8)
  have Px_8 := Lib.hid (hnx)
  clear hbW8 hnx
  have cPa0_8 : W8.cell? ⟨ga, 0, none⟩ = some (.int .i64 a) := Pa_8.out.cell 0
  have cPa1_8 : W8.cell? ⟨ga, 1, none⟩ = some (.slice A l.length c) := Pa_8.out.cell 1
  have cPc0_8 : W8.cell? ⟨gc, 0, none⟩ = some (.int .i64 ck) := Pc_8.out.cell 0
  have cPc1_8 : W8.cell? ⟨gc, 1, none⟩ = some (.int .i64 q) := Pc_8.out.cell 1
  have cPc2_8 : W8.cell? ⟨gc, 2, none⟩ = some (.int .i64 n) := Pc_8.out.cell 2
  have cPl0_8 : W8.cell? ⟨gl, 0, none⟩ = some (.int .i64 a) := Pl_8.out.cell 0
  have cPl1_8 : W8.cell? ⟨gl, 1, none⟩ = some (.slice (some ⟨g1, 0, none⟩) l.length c1) := Pl_8.out.cell 1
  have HX : Hid (PosOK W8 W8.heap.size a l (some ⟨g1, 0, none⟩)) := ⟨reads_pre (lent_reads Ol_8.out) (by rw [markMarkss_len]), Ha_8.out.a1, Ha_8.out.q1, HLN.out⟩
  obtain ⟨By, hBy⟩ : ∃ b, W8.heap.size = b := ⟨_, rfl⟩
  have HG1y : Hid (g1 < By) := by rw [← hBy]; exact (World.ownsRow.lt Ol_8.out g1 rfl).2
  have HBXY : Hid (Bx ≤ By) := by rw [← hBy]; exact SX_8.out
  have HXY : Hid (∀ k, (Value.slice Ax rl.length cx).ownBlock = some k → k < By) := by rw [← hBy]; exact fun k hk => (World.ownsRow.lt Mx_8.out k hk).2
  go_wp2_with (fail)
  refine (ask_calls ck a l (some ⟨g1, 0, none⟩) c1 W8.heap.size q n W8 HX.out (Nat.le_refl _) HG_8.out hq).mono ?_
  rintro e w9 hres
  rw [HRR.out] at hres
  obtain ⟨hbw9, vy, rfl, hmy⟩ := hres
  dsimp only at hmy ⊢
  obtain ⟨Ay, cy, rfl⟩ := own_slice hmy
  rw [hBy] at hmy
  have HBSy := Lib.hid hBy
  clear HX hBy
  rw [HEV.out]
  clear hW8 hgx cPa0_8 cPa1_8 cPc0_8 cPc1_8 cPc2_8 cPl0_8 cPl1_8
  have Ha_9 := Lib.hid (Ha_8.out.below (hbw9.mono HBB_8.out))
  have HBB_9 : Hid (B ≤ w9.heap.size) := Lib.hid (Nat.le_trans HBB_8.out hbw9.size)
  have HG_9 := Lib.hid (HG_8.out.below hbw9)
  have HB_9 := Lib.hid (HB_8.out.trans (hbw9.mono HB_8.out.size))
  have Pa_9 := Lib.hid (Pa_8.out.below hbw9 Pa_8.out.lt)
  have Pc_9 := Lib.hid (Pc_8.out.below hbw9 Pc_8.out.lt)
  have Mw_9 := Lib.hid (Mw_8.out.below hbw9)
  have Pw_9 := Lib.hid (Pw_8.out.below hbw9 Pw_8.out.lt)
  have Ol_9 := Lib.hid (own_below Ol_8.out hbw9)
  have Pl_9 := Lib.hid (Pl_8.out.below hbw9 Pl_8.out.lt)
  have SX_9 : Hid (Bx ≤ w9.heap.size) := Lib.hid (Nat.le_trans SX_8.out hbw9.size)
  have Mx_9 := Lib.hid (Mx_8.out.below hbw9)
  have Px_9 := Lib.hid (Px_8.out.below hbw9 Px_8.out.lt)
  clear hbw9
  have My_9 := Lib.hid (hmy)
  clear hmy
  obtain ⟨gy, hgy⟩ : ∃ g, w9.heap.size = g := ⟨_, rfl⟩
  obtain ⟨W10, hW10⟩ : ∃ X, w9.alloc (.cells #[.int .i64 ra, .slice Ay rl.length cy] 24) = X := ⟨_, rfl⟩
  have hbW10 : Below w9.heap.size w9 W10 := hW10 ▸ (Below.refl _ _).alloc (Nat.le_refl _) _
  have hny : Blk W10 gy 24 #[.int .i64 ra, .slice Ay rl.length cy] := by rw [← hW10]; exact blkNew hgy
  have Ha_10 := Lib.hid (Ha_9.out.below (hbW10.mono HBB_9.out))
  have HBB_10 : Hid (B ≤ W10.heap.size) := Lib.hid (Nat.le_trans HBB_9.out hbW10.size)
  have HG_10 := Lib.hid (HG_9.out.below hbW10)
  have HB_10 := Lib.hid (HB_9.out.trans (hbW10.mono HB_9.out.size))
  have Pa_10 := Lib.hid (Pa_9.out.below hbW10 Pa_9.out.lt)
  have Pc_10 := Lib.hid (Pc_9.out.below hbW10 Pc_9.out.lt)
  have Mw_10 := Lib.hid (Mw_9.out.below hbW10)
  have Pw_10 := Lib.hid (Pw_9.out.below hbW10 Pw_9.out.lt)
  have Ol_10 := Lib.hid (own_below Ol_9.out hbW10)
  have Pl_10 := Lib.hid (Pl_9.out.below hbW10 Pl_9.out.lt)
  have SX_10 : Hid (Bx ≤ W10.heap.size) := Lib.hid (Nat.le_trans SX_9.out hbW10.size)
  have Mx_10 := Lib.hid (Mx_9.out.below hbW10)
  have Px_10 := Lib.hid (Px_9.out.below hbW10 Px_9.out.lt)
  have My_10 := Lib.hid (My_9.out.below hbW10)
  have Py_10 := Lib.hid (hny)
  clear hbW10 hny
  have cPa0_10 : W10.cell? ⟨ga, 0, none⟩ = some (.int .i64 a) := Pa_10.out.cell 0
  have cPa1_10 : W10.cell? ⟨ga, 1, none⟩ = some (.slice A l.length c) := Pa_10.out.cell 1
  have cPx0_10 : W10.cell? ⟨gx, 0, none⟩ = some (.int .i64 ra) := Px_10.out.cell 0
  have cPx1_10 : W10.cell? ⟨gx, 1, none⟩ = some (.slice Ax rl.length cx) := Px_10.out.cell 1
  have cPy0_10 : W10.cell? ⟨gy, 0, none⟩ = some (.int .i64 ra) := Py_10.out.cell 0
  have cPy1_10 : W10.cell? ⟨gy, 1, none⟩ = some (.slice Ay rl.length cy) := Py_10.out.cell 1
  have cPw0_10 : W10.cell? ⟨gw, 0, none⟩ = some (.int .i64 ra) := Pw_10.out.cell 0
  have cPw1_10 : W10.cell? ⟨gw, 1, none⟩ = some (.slice Aw rl.length cw) := Pw_10.out.cell 1
  go_wp2_with (fail)
  rw [← HEV.out]
  refine (told_calls (re, rp) re a l A c B W10 Ha_10.out HBB_10.out HG_10.out HFT.out).mono ?_
  rintro e w11 ⟨rfl, hbw11⟩
  rw [show decide ((re, rp).1 = re) = true by simp]
  rw [HEV.out]
  clear hW10 hgy cPa0_10 cPa1_10 cPx0_10 cPx1_10 cPy0_10 cPy1_10 cPw0_10 cPw1_10
  have Ha_11 := Lib.hid (Ha_10.out.below (hbw11.mono HBB_10.out))
  have HBB_11 : Hid (B ≤ w11.heap.size) := Lib.hid (Nat.le_trans HBB_10.out hbw11.size)
  have HG_11 := Lib.hid (HG_10.out.below hbw11)
  have HB_11 := Lib.hid (HB_10.out.trans (hbw11.mono HB_10.out.size))
  have Pa_11 := Lib.hid (Pa_10.out.below hbw11 Pa_10.out.lt)
  have Pc_11 := Lib.hid (Pc_10.out.below hbw11 Pc_10.out.lt)
  have Mw_11 := Lib.hid (Mw_10.out.below hbw11)
  have Pw_11 := Lib.hid (Pw_10.out.below hbw11 Pw_10.out.lt)
  have Ol_11 := Lib.hid (own_below Ol_10.out hbw11)
  have Pl_11 := Lib.hid (Pl_10.out.below hbw11 Pl_10.out.lt)
  have SX_11 : Hid (Bx ≤ w11.heap.size) := Lib.hid (Nat.le_trans SX_10.out hbw11.size)
  have Mx_11 := Lib.hid (Mx_10.out.below hbw11)
  have Px_11 := Lib.hid (Px_10.out.below hbw11 Px_10.out.lt)
  have My_11 := Lib.hid (My_10.out.below hbw11)
  have Py_11 := Lib.hid (Py_10.out.below hbw11 Py_10.out.lt)
  clear hbw11
  have cPa0_11 : w11.cell? ⟨ga, 0, none⟩ = some (.int .i64 a) := Pa_11.out.cell 0
  have cPa1_11 : w11.cell? ⟨ga, 1, none⟩ = some (.slice A l.length c) := Pa_11.out.cell 1
  have cPx0_11 : w11.cell? ⟨gx, 0, none⟩ = some (.int .i64 ra) := Px_11.out.cell 0
  have cPx1_11 : w11.cell? ⟨gx, 1, none⟩ = some (.slice Ax rl.length cx) := Px_11.out.cell 1
  have cPy0_11 : w11.cell? ⟨gy, 0, none⟩ = some (.int .i64 ra) := Py_11.out.cell 0
  have cPy1_11 : w11.cell? ⟨gy, 1, none⟩ = some (.slice Ay rl.length cy) := Py_11.out.cell 1
  have cPw0_11 : w11.cell? ⟨gw, 0, none⟩ = some (.int .i64 ra) := Pw_11.out.cell 0
  have cPw1_11 : w11.cell? ⟨gw, 1, none⟩ = some (.slice Aw rl.length cw) := Pw_11.out.cell 1
  go_wp2_with (fail)
  rw [← HEV.out]
  refine (told_calls (re, rp) re a l A c B w11 Ha_11.out HBB_11.out HG_11.out HFT.out).mono ?_
  rintro e w12 ⟨rfl, hbw12⟩
  rw [show decide ((re, rp).1 = re) = true by simp]
  clear cPa0_11 cPa1_11 cPx0_11 cPx1_11 cPy0_11 cPy1_11 cPw0_11 cPw1_11
  have Ha_12 := Lib.hid (Ha_11.out.below (hbw12.mono HBB_11.out))
  have HBB_12 : Hid (B ≤ w12.heap.size) := Lib.hid (Nat.le_trans HBB_11.out hbw12.size)
  have HG_12 := Lib.hid (HG_11.out.below hbw12)
  have HB_12 := Lib.hid (HB_11.out.trans (hbw12.mono HB_11.out.size))
  have Pa_12 := Lib.hid (Pa_11.out.below hbw12 Pa_11.out.lt)
  have Pc_12 := Lib.hid (Pc_11.out.below hbw12 Pc_11.out.lt)
  have Mw_12 := Lib.hid (Mw_11.out.below hbw12)
  have Pw_12 := Lib.hid (Pw_11.out.below hbw12 Pw_11.out.lt)
  have Ol_12 := Lib.hid (own_below Ol_11.out hbw12)
  have Pl_12 := Lib.hid (Pl_11.out.below hbw12 Pl_11.out.lt)
  have SX_12 : Hid (Bx ≤ w12.heap.size) := Lib.hid (Nat.le_trans SX_11.out hbw12.size)
  have Mx_12 := Lib.hid (Mx_11.out.below hbw12)
  have Px_12 := Lib.hid (Px_11.out.below hbw12 Px_11.out.lt)
  have My_12 := Lib.hid (My_11.out.below hbw12)
  have Py_12 := Lib.hid (Py_11.out.below hbw12 Py_11.out.lt)
  clear hbw12
  have cPx0_12 : w12.cell? ⟨gx, 0, none⟩ = some (.int .i64 ra) := Px_12.out.cell 0
  have cPx1_12 : w12.cell? ⟨gx, 1, none⟩ = some (.slice Ax rl.length cx) := Px_12.out.cell 1
  have cPw0_12 : w12.cell? ⟨gw, 0, none⟩ = some (.int .i64 ra) := Pw_12.out.cell 0
  have cPw1_12 : w12.cell? ⟨gw, 1, none⟩ = some (.slice Aw rl.length cw) := Pw_12.out.cell 1
  go_wp2_with (fail)
  refine (samePos_calls ra ra rl rl Ax Aw cx cw w12.heap.size w12 (Reads.of_own Mx_12.out) (Reads.of_own Mw_12.out) (Nat.le_refl _) (by have := HRL.out; omega)).mono ?_
  rintro e w13 ⟨rfl, hbw13⟩
  rw [show (ra == ra && decide (rl = rl)) = true by simp]
  clear cPx0_12 cPx1_12 cPw0_12 cPw1_12
  have Ha_13 := Lib.hid (Ha_12.out.below (hbw13.mono HBB_12.out))
  have HBB_13 : Hid (B ≤ w13.heap.size) := Lib.hid (Nat.le_trans HBB_12.out hbw13.size)
  have HG_13 := Lib.hid (HG_12.out.below hbw13)
  have HB_13 := Lib.hid (HB_12.out.trans (hbw13.mono HB_12.out.size))
  have Pa_13 := Lib.hid (Pa_12.out.below hbw13 Pa_12.out.lt)
  have Pc_13 := Lib.hid (Pc_12.out.below hbw13 Pc_12.out.lt)
  have Mw_13 := Lib.hid (Mw_12.out.below hbw13)
  have Pw_13 := Lib.hid (Pw_12.out.below hbw13 Pw_12.out.lt)
  have Ol_13 := Lib.hid (own_below Ol_12.out hbw13)
  have Pl_13 := Lib.hid (Pl_12.out.below hbw13 Pl_12.out.lt)
  have SX_13 : Hid (Bx ≤ w13.heap.size) := Lib.hid (Nat.le_trans SX_12.out hbw13.size)
  have Mx_13 := Lib.hid (Mx_12.out.below hbw13)
  have Px_13 := Lib.hid (Px_12.out.below hbw13 Px_12.out.lt)
  have My_13 := Lib.hid (My_12.out.below hbw13)
  have Py_13 := Lib.hid (Py_12.out.below hbw13 Py_12.out.lt)
  clear hbw13
  have cPy0_13 : w13.cell? ⟨gy, 0, none⟩ = some (.int .i64 ra) := Py_13.out.cell 0
  have cPy1_13 : w13.cell? ⟨gy, 1, none⟩ = some (.slice Ay rl.length cy) := Py_13.out.cell 1
  have cPw0_13 : w13.cell? ⟨gw, 0, none⟩ = some (.int .i64 ra) := Pw_13.out.cell 0
  have cPw1_13 : w13.cell? ⟨gw, 1, none⟩ = some (.slice Aw rl.length cw) := Pw_13.out.cell 1
  go_wp2_with (fail)
  refine (samePos_calls ra ra rl rl Ay Aw cy cw w13.heap.size w13 (Reads.of_own My_13.out) (Reads.of_own Mw_13.out) (Nat.le_refl _) (by have := HRL.out; omega)).mono ?_
  rintro e w14 ⟨rfl, hbw14⟩
  rw [show (ra == ra && decide (rl = rl)) = true by simp]
  clear cPy0_13 cPy1_13 cPw0_13 cPw1_13
  have Ha_14 := Lib.hid (Ha_13.out.below (hbw14.mono HBB_13.out))
  have HBB_14 : Hid (B ≤ w14.heap.size) := Lib.hid (Nat.le_trans HBB_13.out hbw14.size)
  have HG_14 := Lib.hid (HG_13.out.below hbw14)
  have HB_14 := Lib.hid (HB_13.out.trans (hbw14.mono HB_13.out.size))
  have Pa_14 := Lib.hid (Pa_13.out.below hbw14 Pa_13.out.lt)
  have Pc_14 := Lib.hid (Pc_13.out.below hbw14 Pc_13.out.lt)
  have Mw_14 := Lib.hid (Mw_13.out.below hbw14)
  have Pw_14 := Lib.hid (Pw_13.out.below hbw14 Pw_13.out.lt)
  have Ol_14 := Lib.hid (own_below Ol_13.out hbw14)
  have Pl_14 := Lib.hid (Pl_13.out.below hbw14 Pl_13.out.lt)
  have SX_14 : Hid (Bx ≤ w14.heap.size) := Lib.hid (Nat.le_trans SX_13.out hbw14.size)
  have Mx_14 := Lib.hid (Mx_13.out.below hbw14)
  have Px_14 := Lib.hid (Px_13.out.below hbw14 Px_13.out.lt)
  have My_14 := Lib.hid (My_13.out.below hbw14)
  have Py_14 := Lib.hid (Py_13.out.below hbw14 Py_13.out.lt)
  clear hbw14
  go_wp2_with (fail)
  refine (works_calls w14 HG_14.out).mono ?_
  rintro e w15 ⟨rfl, hbw15⟩
  have Ha_15 := Lib.hid (Ha_14.out.below (hbw15.mono HBB_14.out))
  have HBB_15 : Hid (B ≤ w15.heap.size) := Lib.hid (Nat.le_trans HBB_14.out hbw15.size)
  have HG_15 := Lib.hid (HG_14.out.below hbw15)
  have HB_15 := Lib.hid (HB_14.out.trans (hbw15.mono HB_14.out.size))
  have Pa_15 := Lib.hid (Pa_14.out.below hbw15 Pa_14.out.lt)
  have Pc_15 := Lib.hid (Pc_14.out.below hbw15 Pc_14.out.lt)
  have Mw_15 := Lib.hid (Mw_14.out.below hbw15)
  have Pw_15 := Lib.hid (Pw_14.out.below hbw15 Pw_14.out.lt)
  have Ol_15 := Lib.hid (own_below Ol_14.out hbw15)
  have Pl_15 := Lib.hid (Pl_14.out.below hbw15 Pl_14.out.lt)
  have SX_15 : Hid (Bx ≤ w15.heap.size) := Lib.hid (Nat.le_trans SX_14.out hbw15.size)
  have Mx_15 := Lib.hid (Mx_14.out.below hbw15)
  have Px_15 := Lib.hid (Px_14.out.below hbw15 Px_14.out.lt)
  have My_15 := Lib.hid (My_14.out.below hbw15)
  have Py_15 := Lib.hid (Py_14.out.below hbw15 Py_14.out.lt)
  clear hbw15
  have cPl0_15 : w15.cell? ⟨gl, 0, none⟩ = some (.int .i64 a) := Pl_15.out.cell 0
  have cPl1_15 : w15.cell? ⟨gl, 1, none⟩ = some (.slice (some ⟨g1, 0, none⟩) l.length c1) := Pl_15.out.cell 1
  go_wp2_with (fail)
  clear cPl0_15 cPl1_15
  obtain ⟨Bo, hBo⟩ : ∃ b, b = Bw := ⟨_, rfl⟩
  have HOL : Hid (w15.ownsRow Bw 37 2 (.slice (some ⟨g1, 0, none⟩) (l.length + 16) c1) (l.length + 16) (marksC (l ++ markMarkss))) := own_base_le Ol_15.out (by rw [HBWS.out]; exact Nat.le_refl _)
  subst hBo
  go_loopw [12] (fun i wr => ∃ k : Nat, k ≤ l.length ∧ i = .int .i64 k ∧ ∃ ms, ms.length = l.length + 16 ∧ (∀ j, l.length ≤ j → ms[j]? = (l ++ markMarkss)[j]?) ∧ wr.ownsRow Bo 37 2 (.slice (some ⟨g1, 0, none⟩) (l.length + 16) c1) (l.length + 16) (marksC ms) ∧ w15.grownBy wr (some g1)) (fun i _ => l.length - (intOf i).toNat)
  case atStart => exact ⟨0, Nat.zero_le _, rfl, l ++ markMarkss, by rw [List.length_append, markMarkss_len], fun j _ => rfl, HOL.out, ⟨rfl, rfl, rfl, Nat.le_refl _, fun _ _ _ => rfl⟩⟩
  case round =>
    obtain ⟨k, hk, rfl, ms, hml, hmt, hmo, hgrn⟩ := hrel
    have HML := Lib.hid hml
    have HMT := Lib.hid hmt
    have HMO := Lib.hid hmo
    have HGRN := Lib.hid hgrn
    have Pa_16 := Lib.hid (Pa_15.out.grown hgrn (by intro h; injection h with h; exact absurd h (Ne.symm (own_blk_neq HOL.out Pa_15.out (by decide)))))
    have Pc_16 := Lib.hid (Pc_15.out.grown hgrn (by intro h; injection h with h; exact absurd h (Ne.symm (own_blk_neq HOL.out Pc_15.out (by decide)))))
    have Pw_16 := Lib.hid (Pw_15.out.grown hgrn (by intro h; injection h with h; exact absurd h (Ne.symm (own_blk_neq HOL.out Pw_15.out (by decide)))))
    have Pl_16 := Lib.hid (Pl_15.out.grown hgrn (by intro h; injection h with h; exact absurd h (Ne.symm (own_blk_neq HOL.out Pl_15.out (by decide)))))
    have Px_16 := Lib.hid (Px_15.out.grown hgrn (by intro h; injection h with h; exact absurd h (Ne.symm (own_blk_neq HOL.out Px_15.out (by decide)))))
    have Py_16 := Lib.hid (Py_15.out.grown hgrn (by intro h; injection h with h; exact absurd h (Ne.symm (own_blk_neq HOL.out Py_15.out (by decide)))))
    have Mx_16 := Lib.hid (Mx_15.out.grown hgrn (by intro k hk h; injection h with h; have h1 := own_base Mx_15.out hk; have := HG1x.out; omega))
    have My_16 := Lib.hid (My_15.out.grown hgrn (by intro k hk h; injection h with h; have h1 := own_base My_15.out hk; have := HG1y.out; omega))
    have Mw_16 := Lib.hid (Mw_15.out.grown hgrn (by intro k hk h; injection h with h; have h1 := HWB.out k hk; have := HOBW.out; omega))
    have HBx_16 := Lib.hid (below_of_grown hgrn (B := w.heap.size) (by intro g h; injection h with h; have := HWLE.out; have := HOBW.out; omega) (HB_15.out.size))
    have HB_16 := Lib.hid (HB_15.out.trans HBx_16.out)
    have HG_16 := Lib.hid (HG_0.out.below HB_16.out)
    have SX_16 : Hid (Bx ≤ wr.heap.size) := Lib.hid (Nat.le_trans SX_15.out hgrn.size)
    have Ha_16 := Lib.hid (Ha_0.out.below (HB_16.out.mono HB00.out))
    have HBB_16 : Hid (B ≤ wr.heap.size) := Lib.hid (Nat.le_trans HB00.out HB_16.out.size)
    clear hmt hmo hgrn
    have cPl0_16 : wr.cell? ⟨gl, 0, none⟩ = some (.int .i64 a) := Pl_16.out.cell 0
    have cPl1_16 : wr.cell? ⟨gl, 1, none⟩ = some (.slice (some ⟨g1, 0, none⟩) l.length c1) := Pl_16.out.cell 1
    by_cases hlt : k < l.length
    · have hkl : (k : Int) < l.length := by omega
      obtain ⟨⟨u0, hu0⟩, ⟨u1, hu1⟩, hf0, hf1⟩ := own_cells HMO.out (k := k) (by omega)
      clear hml
      go_wp2_with (fail)
      go_roundw
      case rel =>
        refine ⟨k + 1, by omega, by go_num, ms.set k ⟨-9, -9⟩, by rw [List.length_set]; exact HML.out, fun j hj => ?_, own_set HMO.out HML.out.symm (by rw [HML.out]; omega) ⟨-9, -9⟩, ?_⟩
        · rw [List.getElem?_set_ne (by omega)]; exact HMT.out j hj
        · exact grown_comp HGRN.out (grown_setCellsL [.int .i64 (-9), .int .i64 (-9)] (k * 2) wr)
      case measure => simp [intOf]; omega
    · obtain rfl : k = l.length := by omega
      clear hlt hk hml HGRN
      have cPx0_16 : wr.cell? ⟨gx, 0, none⟩ = some (.int .i64 ra) := Px_16.out.cell 0
      have cPx1_16 : wr.cell? ⟨gx, 1, none⟩ = some (.slice Ax rl.length cx) := Px_16.out.cell 1
      have cPw0_16 : wr.cell? ⟨gw, 0, none⟩ = some (.int .i64 ra) := Pw_16.out.cell 0
      have cPw1_16 : wr.cell? ⟨gw, 1, none⟩ = some (.slice Aw rl.length cw) := Pw_16.out.cell 1
      go_wp2_with (fail)
      refine (samePos_calls ra ra rl rl Ax Aw cx cw wr.heap.size wr (Reads.of_own Mx_16.out) (Reads.of_own Mw_16.out) (Nat.le_refl _) (by have := HRL.out; omega)).mono ?_
      rintro e w17 ⟨rfl, hbw17⟩
      rw [show (ra == ra && decide (rl = rl)) = true by simp]
      clear cPl0_16 cPl1_16 cPx0_16 cPx1_16 cPw0_16 cPw1_16
      have Ha_17 := Lib.hid (Ha_16.out.below (hbw17.mono HBB_16.out))
      have HBB_17 : Hid (B ≤ w17.heap.size) := Lib.hid (Nat.le_trans HBB_16.out hbw17.size)
      have HG_17 := Lib.hid (HG_16.out.below hbw17)
      have HB_17 := Lib.hid (HB_16.out.trans (hbw17.mono HB_16.out.size))
      have Pa_17 := Lib.hid (Pa_16.out.below hbw17 Pa_16.out.lt)
      have Pc_17 := Lib.hid (Pc_16.out.below hbw17 Pc_16.out.lt)
      have Mw_17 := Lib.hid (Mw_16.out.below hbw17)
      have Pw_17 := Lib.hid (Pw_16.out.below hbw17 Pw_16.out.lt)
      have Pl_17 := Lib.hid (Pl_16.out.below hbw17 Pl_16.out.lt)
      have SX_17 : Hid (Bx ≤ w17.heap.size) := Lib.hid (Nat.le_trans SX_16.out hbw17.size)
      have Mx_17 := Lib.hid (Mx_16.out.below hbw17)
      have Px_17 := Lib.hid (Px_16.out.below hbw17 Px_16.out.lt)
      have My_17 := Lib.hid (My_16.out.below hbw17)
      have Py_17 := Lib.hid (Py_16.out.below hbw17 Py_16.out.lt)
      have HMO2 := Lib.hid (own_below HMO.out hbw17)
      clear hbw17
      skip
      have cPl0_17 : w17.cell? ⟨gl, 0, none⟩ = some (.int .i64 a) := Pl_17.out.cell 0
      have cPl1_17 : w17.cell? ⟨gl, 1, none⟩ = some (.slice (some ⟨g1, 0, none⟩) l.length c1) := Pl_17.out.cell 1
      go_wp2_with (fail)
      clear cPl0_17 cPl1_17
      have HSXW : Hid (Bx ≤ w17.heap.size) := SX_17.out
      go_loopw [13] (fun i wq => ∃ k : Nat, k ≤ l.length ∧ i = .int .i64 k ∧ ∃ ms, ms.length = l.length + 16 ∧ (∀ j, j < k → ms[j]? = l[j]?) ∧ (∀ j, l.length ≤ j → ms[j]? = (l ++ markMarkss)[j]?) ∧ wq.ownsRow Bo 37 2 (.slice (some ⟨g1, 0, none⟩) (l.length + 16) c1) (l.length + 16) (marksC ms) ∧ w17.grownBy wq (some g1)) (fun i _ => l.length - (intOf i).toNat)
      case atStart => exact ⟨0, Nat.zero_le _, rfl, ms, HML.out, fun j hj => by omega, HMT.out, HMO2.out, ⟨rfl, rfl, rfl, Nat.le_refl _, fun _ _ _ => rfl⟩⟩
      case round =>
        clear HML HMT HMO
        obtain ⟨k, hk, rfl, ms, hml, hmp, hmt, hmo, hgrn⟩ := hrel
        rename World => wq
        have HML := Lib.hid hml
        have HMP := Lib.hid hmp
        have HMT := Lib.hid hmt
        have HMO := Lib.hid hmo
        have HGRN := Lib.hid hgrn
        have Pa_18 := Lib.hid (Pa_17.out.grown hgrn (by intro h; injection h with h; exact absurd h (Ne.symm (own_blk_neq HMO2.out Pa_17.out (by decide)))))
        have Pc_18 := Lib.hid (Pc_17.out.grown hgrn (by intro h; injection h with h; exact absurd h (Ne.symm (own_blk_neq HMO2.out Pc_17.out (by decide)))))
        have Pw_18 := Lib.hid (Pw_17.out.grown hgrn (by intro h; injection h with h; exact absurd h (Ne.symm (own_blk_neq HMO2.out Pw_17.out (by decide)))))
        have Pl_18 := Lib.hid (Pl_17.out.grown hgrn (by intro h; injection h with h; exact absurd h (Ne.symm (own_blk_neq HMO2.out Pl_17.out (by decide)))))
        have Px_18 := Lib.hid (Px_17.out.grown hgrn (by intro h; injection h with h; exact absurd h (Ne.symm (own_blk_neq HMO2.out Px_17.out (by decide)))))
        have Py_18 := Lib.hid (Py_17.out.grown hgrn (by intro h; injection h with h; exact absurd h (Ne.symm (own_blk_neq HMO2.out Py_17.out (by decide)))))
        have Mx_18 := Lib.hid (Mx_17.out.grown hgrn (by intro k hk h; injection h with h; have h1 := own_base Mx_17.out hk; have := HG1x.out; omega))
        have My_18 := Lib.hid (My_17.out.grown hgrn (by intro k hk h; injection h with h; have h1 := own_base My_17.out hk; have := HG1y.out; omega))
        have Mw_18 := Lib.hid (Mw_17.out.grown hgrn (by intro k hk h; injection h with h; have h1 := HWB.out k hk; have := HOBW.out; omega))
        have HBx_18 := Lib.hid (below_of_grown hgrn (B := w.heap.size) (by intro g h; injection h with h; have := HWLE.out; have := HOBW.out; omega) (HB_17.out.size))
        have HB_18 := Lib.hid (HB_17.out.trans HBx_18.out)
        have HG_18 := Lib.hid (HG_0.out.below HB_18.out)
        have SX_18 : Hid (Bx ≤ wq.heap.size) := Lib.hid (Nat.le_trans SX_17.out hgrn.size)
        have Ha_18 := Lib.hid (Ha_0.out.below (HB_18.out.mono HB00.out))
        have HBB_18 : Hid (B ≤ wq.heap.size) := Lib.hid (Nat.le_trans HB00.out HB_18.out.size)
        clear hmt hmo hgrn hmp
        have cPl0_18 : wq.cell? ⟨gl, 0, none⟩ = some (.int .i64 a) := Pl_18.out.cell 0
        have cPl1_18 : wq.cell? ⟨gl, 1, none⟩ = some (.slice (some ⟨g1, 0, none⟩) l.length c1) := Pl_18.out.cell 1
        have cPa0_18 : wq.cell? ⟨ga, 0, none⟩ = some (.int .i64 a) := Pa_18.out.cell 0
        have cPa1_18 : wq.cell? ⟨ga, 1, none⟩ = some (.slice A l.length c) := Pa_18.out.cell 1
        by_cases hlt : k < l.length
        · have hkl : (k : Int) < l.length := by omega
          obtain ⟨⟨u0, hu0⟩, ⟨u1, hu1⟩, hf0, hf1⟩ := own_cells HMO.out (k := k) (by omega)
          obtain ⟨ad, rfl, hadb, e0, e1⟩ := marks_at Ha_18.out.r hlt
          have hlk : l[k]? = some l[k] := List.getElem?_eq_getElem hlt
          obtain ⟨x, hx⟩ : ∃ x, l[k] = x := ⟨_, rfl⟩
          rw [hx] at e0 e1 hlk
          have HLK := Lib.hid hlk
          clear hx hlk hml
          go_wp2_with (fail)
          go_region
          all_goals
            go_wp2
            go_roundw
            case rel =>
              refine ⟨k + 1, by omega, by go_num, ms.set k x, by rw [List.length_set]; exact HML.out, fun j hj => ?_, fun j hj => ?_, own_set (w := wq.drew) HMO.out HML.out.symm (by rw [HML.out]; omega) x, ?_⟩
              · rcases Nat.lt_or_ge j k with h | h
                · rw [List.getElem?_set_ne (by omega)]; exact HMP.out j h
                · obtain rfl : j = k := by omega
                  rw [HLK.out, List.getElem?_set_self (by rw [HML.out]; omega)]
              · rw [List.getElem?_set_ne (by omega)]; exact HMT.out j hj
              · exact grown_comp HGRN.out (grown_comp (b := wq.drew) ⟨rfl, rfl, rfl, Nat.le_refl _, fun _ _ _ => rfl⟩ (grown_setCellsL [.int .i64 x.m, .int .i64 x.q] (k * 2) wq.drew))
            case measure => simp [intOf]; omega
        · obtain rfl : k = l.length := by omega
          have hms : ms = l ++ markMarkss := by
            apply List.ext_getElem?
            intro j
            rcases Nat.lt_or_ge j l.length with h | h
            · rw [HMP.out j h, List.getElem?_append_left h]
            · exact HMT.out j h
          have HMS := Lib.hid (hms ▸ HMO.out)
          have HGR2 := Lib.hid HGRN.out
          clear hms hlt hk hml HGRN
          have HBSZ : Hid (Bx ≤ wq.heap.size) := by have h1 := (World.ownsRow.lt HMO.out g1 rfl).2; exact Nat.le_trans HSXW.out HGR2.out.size
          have HRDS := Lib.hid (Ha_18.out.r)
          have HBBS := Lib.hid HBB_18.out
          obtain ⟨gS, hgS⟩ : ∃ g, wq.heap.size = g := ⟨_, rfl⟩
          obtain ⟨WS, hWS⟩ : ∃ X, wq.alloc (.cells #[.slice Ax rl.length cx, .slice Ay rl.length cy] 22) = X := ⟨_, rfl⟩
          have hbS : Below wq.heap.size wq WS := hWS ▸ (Below.refl _ _).alloc (Nat.le_refl _) _
          have hnS : Blk WS gS 22 #[.slice Ax rl.length cx, .slice Ay rl.length cy] := by rw [← hWS]; exact blkNew hgS
          have HNS := Lib.hid hnS
          have cPx0_18 : wq.cell? ⟨gx, 0, none⟩ = some (.int .i64 ra) := Px_18.out.cell 0
          have cPx1_18 : wq.cell? ⟨gx, 1, none⟩ = some (.slice Ax rl.length cx) := Px_18.out.cell 1
          have cPy0_18 : wq.cell? ⟨gy, 0, none⟩ = some (.int .i64 ra) := Py_18.out.cell 0
          have cPy1_18 : wq.cell? ⟨gy, 1, none⟩ = some (.slice Ay rl.length cy) := Py_18.out.cell 1
          have HMXS := Lib.hid (Mx_18.out.below hbS)
          have HMYS := Lib.hid (My_18.out.below hbS)
          have HMOS := Lib.hid (own_below HMS.out hbS)
          have HPLS := Lib.hid (Pl_18.out.below hbS Pl_18.out.lt)
          have HPAS := Lib.hid (Pa_18.out.below hbS Pa_18.out.lt)
          have HBS := Lib.hid (HB_18.out.trans (hbS.mono HB_18.out.size))
          have HBXS : Hid (Bx ≤ WS.heap.size) := by have h1 := HBSZ.out; have h2 := hbS.size; show _ ≤ _; omega
          have HRS := Lib.hid (HRDS.out.below (hbS.mono HBBS.out))
          clear hbS hnS
          go_wp2_with (fail)
          refine (apartMarks_calls 2 gS 2 (fun k => if k = 0 then .slice Ax rl.length cx else .slice Ay rl.length cy) (fun _ => rl.length) (fun b => if b < By then 0 else 1) Bx _ WS HNS.out (fun k hk => ?_) (fun j hj => ?_) (by decide) (fun j hj => by have := HRL.out; omega) HBXS.out).mono ?_
          · match k, hk with
            | 0, _ => rfl
            | 1, _ => rfl
          · match j, hj with
            | 0, _ => exact fil0 HMXS.out (Nat.le_refl _) (fun b hb => if_pos (HXY.out b hb))
            | 1, _ => exact fil0 HMYS.out HBXY.out (fun b hb => if_neg (by have := own_base HMYS.out hb; omega))
          rintro e wZ ⟨rfl, hbZ, hkZ⟩
          clear hkZ
          clear cPl0_18 cPl1_18 cPa0_18 cPa1_18 cPx0_18 cPx1_18 cPy0_18 cPy1_18
          have HPLZ := Lib.hid (HPLS.out.below hbZ HGL.out)
          have HPAZ := Lib.hid (HPAS.out.below hbZ HGA.out)
          have HBZ := Lib.hid (HBS.out.trans (hbZ.mono HWX.out))
          have HRZ := Lib.hid ((reads_low (lent_reads HMOS.out) HG1x.out).below hbZ)
          have HRAZ := Lib.hid (HRS.out.below (hbZ.mono (Nat.le_trans HB00.out HWX.out)))
          have HSZ : Hid (Bx ≤ wZ.heap.size) := Nat.le_trans HBXS.out hbZ.size
          have t0 : wZ.cell? ⟨gl, 0, none⟩ = some (.int .i64 a) := HPLZ.out.cell 0
          have t1 : wZ.cell? ⟨gl, 1, none⟩ = some (.slice (some ⟨g1, 0, none⟩) l.length c1) := HPLZ.out.cell 1
          have r0 : wZ.cell? ⟨ga, 0, none⟩ = some (.int .i64 a) := HPAZ.out.cell 0
          have r1 : wZ.cell? ⟨ga, 1, none⟩ = some (.slice A l.length c) := HPAZ.out.cell 1
          clear hbZ
          go_wp2_with (fail)
          refine (keptPos_calls a l g1 A c1 c wZ.heap.size wZ (HRZ.out.more HSZ.out) HC1.out (HRAZ.out.more (Nat.le_trans HB00.out HBZ.out.size)) (Nat.le_refl _) (by have := HLN.out; omega)).mono ?_
          rintro e wQ ⟨rfl, hbQ⟩
          go_wp2_with (fail)
          go_ret
          exact ⟨rfl, HBZ.out.trans (hbQ.mono HBZ.out.size)⟩
end Go.Proofs.YtcgcgekefhhjhaaDoor
