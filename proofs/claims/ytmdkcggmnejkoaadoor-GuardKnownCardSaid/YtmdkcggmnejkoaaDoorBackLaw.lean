/- Law GuardBack: its walk (printed by gen_back.py). -/
import Derived.Test.YtmdkcggmnejkoaaDoorBackPlain
import Derived.Test.YtmdkcggmnejkoaaDoorWorks
import Derived.Test.YtmdkcggmnejkoaaDoorClass
import Derived.Deep.DeepCutAuto
import Derived.Deep.RegionHeld3
import Derived.Deep.CutBlock
namespace Go.Proofs.YtmdkcggmnejkoaaDoor
set_option linter.unusedSimpArgs false
set_option linter.unusedVariables false
open Go.RowKit

set_option maxRecDepth 100000 in
set_option maxHeartbeats 8000000 in
theorem back_good (o p : Op) (oL oP pL pP rA : Option Addr) (olc opc plc ppc rc : Nat) (raw : List Int) (w : World)
    (hoL : Reads w w.heap.size 5 oL o.legs.length (legsC o.legs)) (hoP : Reads w w.heap.size 2 oP o.pairs.length (keysC o.pairs)) (hpL : Reads w w.heap.size 5 pL p.legs.length (legsC p.legs)) (hpP : Reads w w.heap.size 2 pP p.pairs.length (keysC p.pairs)) (hr : Reads w w.heap.size 1 rA raw.length (intsC raw))
    (hol : o.legs.length * 40 ≤ 140737488351232) (hop : o.pairs.length * 16 ≤ 140737488351232) (hpl : p.legs.length * 40 ≤ 140737488351232) (hpp : p.pairs.length * 16 ≤ 140737488351232) (hrl : raw.length * 8 ≤ 140737488351232) (hrc : raw.length ≤ rc) (hG : HG w) (hc : 1 ≤ o.code ∧ o.code ≤ 8) :
    Calls Tryd.prog 9 #[.agg #[.int .i64 o.code, .int .i64 o.acc, .int .i64 o.ast, .int .i64 o.qty, .int .i64 o.name, .int .i64 o.id, .slice oL o.legs.length olc, .slice oP o.pairs.length opc], .agg #[.int .i64 p.code, .int .i64 p.acc, .int .i64 p.ast, .int .i64 p.qty, .int .i64 p.name, .int .i64 p.id, .slice pL p.legs.length plc, .slice pP p.pairs.length ppc], .slice rA raw.length rc] w fun e w' => e = .returned (.bool true) ∧ Below w.heap.size w w' := by
  obtain ⟨g, hg⟩ : ∃ g, w.heap.size = g := ⟨_, rfl⟩
  obtain ⟨W2, hW2⟩ : ∃ W2, (w.alloc (.cells #[.int .i64 o.code, .int .i64 o.acc, .int .i64 o.ast, .int .i64 o.qty, .int .i64 o.name, .int .i64 o.id, .slice oL o.legs.length olc, .slice oP o.pairs.length opc] 33)).alloc (.cells #[.int .i64 p.code, .int .i64 p.acc, .int .i64 p.ast, .int .i64 p.qty, .int .i64 p.name, .int .i64 p.id, .slice pL p.legs.length plc, .slice pP p.pairs.length ppc] 33) = W2 := ⟨_, rfl⟩
  have B : Below w.heap.size w W2 := hW2 ▸ ((Below.refl _ _).alloc (Nat.le_refl _) _).alloc (by simp) _
  have b1 : Blk W2 g 33 #[.int .i64 o.code, .int .i64 o.acc, .int .i64 o.ast, .int .i64 o.qty, .int .i64 o.name, .int .i64 o.id, .slice oL o.legs.length olc, .slice oP o.pairs.length opc] := by rw [← hW2, ← hg]; exact (Blk.new _ _ _).alloc _
  have b2 : Blk W2 (g + 1) 33 #[.int .i64 p.code, .int .i64 p.acc, .int .i64 p.ast, .int .i64 p.qty, .int .i64 p.name, .int .i64 p.id, .slice pL p.legs.length plc, .slice pP p.pairs.length ppc] := by rw [← hW2, ← hg]; have h := Blk.new (w.alloc (.cells #[.int .i64 o.code, .int .i64 o.acc, .int .i64 o.ast, .int .i64 o.qty, .int .i64 o.name, .int .i64 o.id, .slice oL o.legs.length olc, .slice oP o.pairs.length opc] 33)) 33 #[.int .i64 p.code, .int .i64 p.acc, .int .i64 p.ast, .int .i64 p.qty, .int .i64 p.name, .int .i64 p.id, .slice pL p.legs.length plc, .slice pP p.pairs.length ppc]; simpa using h
  have hr0 := hr
  replace hoL := hoL.up B
  replace hoP := hoP.up B
  replace hpL := hpL.up B
  replace hpP := hpP.up B
  replace hr := hr.up B
  have k0 : W2.cell? ⟨g, 0, none⟩ = some (.int .i64 o.code) := b1.cell 0
  have k1 : W2.cell? ⟨g, 1, none⟩ = some (.int .i64 o.acc) := b1.cell 1
  have k2 : W2.cell? ⟨g, 2, none⟩ = some (.int .i64 o.ast) := b1.cell 2
  have k3 : W2.cell? ⟨g, 3, none⟩ = some (.int .i64 o.qty) := b1.cell 3
  have k4 : W2.cell? ⟨g, 4, none⟩ = some (.int .i64 o.name) := b1.cell 4
  have k5 : W2.cell? ⟨g, 5, none⟩ = some (.int .i64 o.id) := b1.cell 5
  have k6 : W2.cell? ⟨g, 6, none⟩ = some (.slice oL o.legs.length olc) := b1.cell 6
  have k7 : W2.cell? ⟨g, 7, none⟩ = some (.slice oP o.pairs.length opc) := b1.cell 7
  have B1 := Lib.hid b1
  have B2 := Lib.hid b2
  clear b1 b2
  go_enter Tryd.func9, Tryd.ntmps9
  go_wp2_with (fail)
  refine (encode_calls o oL oP olc opc W2 hoL hoP hol hop).mono ?_
  rintro e w1 he
  unfold EncPost at he
  rw [if_pos hc] at he
  obtain ⟨A, rfl, hcr, hb1⟩ := he
  have b1 := B1.out
  have b2 := B2.out
  clear B1 B2 hW2 k0 k1 k2 k3 k4 k5 k6 k7
  have hl := clip_reads hcr
  have hll : (encL o).length ≤ 17592186044416 := encL_len o hol hop
  replace b1 := b1.up hb1
  replace b2 := b2.up hb1
  replace hoL := hoL.up hb1
  replace hoP := hoP.up hb1
  replace hpL := hpL.up hb1
  replace hpP := hpP.up hb1
  replace hr := hr.up hb1
  replace B := B.trans (hb1.mono B.size)
  have k0 : w1.cell? ⟨g, 0, none⟩ = some (.int .i64 o.code) := b1.cell 0
  have hc1 := hc.1
  have hc2 := hc.2
  clear hcr hb1
  go_wp2_with (fail)
  go_region_held3 (fun w' => w'.cell? ⟨g, 0, none⟩ = some (.int .i64 o.code))
    (first | go_keep | fail)
    (first | (go_at_call 33; refine (works_calls w1.drew (hG.below B.drew)).mono ?_; rintro e w2 ⟨rfl, hb2⟩; have q0 := cell_below (w := w1.drew) hb2 k0))
  replace hb2 : Below w1.heap.size w1 w2 := (Below.refl _ _).drew.trans hb2
  replace b1 := b1.up hb2
  replace b2 := b2.up hb2
  replace hoL := hoL.up hb2
  replace hoP := hoP.up hb2
  replace hpL := hpL.up hb2
  replace hpP := hpP.up hb2
  replace hr := hr.up hb2
  replace hl := hl.up hb2
  replace B := B.trans (hb2.mono B.size)
  clear hb2 q0 k0
  go_upto_if 40 with fail
  go_cut [] (fun wc => Below w.heap.size w wc)
  case rest =>
    clear hoL hoP hpL hpP hr hl b1 b2 B hol hop hpl hpp hll hc hc1 hc2
    have hr1 := hr0.up hcut
    have hrl2 : raw.length ≤ 17592186044416 := by omega
    go_wp2_with (fail)
    refine (decode_calls rA rc raw wc hr1 hrc hrl2).mono ?_
    rintro e w3 ⟨L, P, he, hL, hP, hb3⟩
    obtain ⟨LA, lc, rfl⟩ := own_slice_n hL
    obtain ⟨PA, pc, rfl⟩ := own_slice_n hP
    simp only [OpM.cs, opCs] at he
    subst he
    have B3 : Below w.heap.size w w3 := hcut.trans (hb3.mono hcut.size)
    have hr3 := hr1.up hb3
    have hLr := Reads.of_own hL
    have hPr := Reads.of_own hP
    obtain ⟨hn5, hn2⟩ := dec_len raw
    rcases dec_err raw with hz | hz
    · obtain ⟨he1, he2, he3⟩ := enc_dec raw hz
      rw [hz, errV_zero]
      generalize hx : (decodeG raw).1 = x at hL hP hLr hPr hn5 hn2 he1 he2 he3
      clear hx hz hL hP hr1 hb3
      obtain ⟨xc, xa, xb, xq, xn, xi, xls, xks⟩ := x
      dsimp only at hLr hPr hn5 hn2 he1 he2 he3 ⊢
      have he1' : encL ⟨xc, xa, xb, xq, xn, xi, xls, xks⟩ = raw := he1
      clear he1
      go_wp2_with (fail)
      refine (encode_calls ⟨xc, xa, xb, xq, xn, xi, xls, xks⟩ LA PA lc pc _ (hLr.up (here_alloc _ _)) (hPr.up (here_alloc _ _)) (by dsimp only; omega) (by dsimp only; omega)).mono ?_
      rintro e w4 he4
      unfold EncPost at he4
      rw [if_pos ⟨he2, he3⟩] at he4
      obtain ⟨A4, rfl, hcr4, hb4⟩ := he4
      rw [he1'] at hcr4 ⊢
      have hm := clip_reads hcr4
      have hr4 := (hr3.up (here_alloc _ _)).up hb4
      go_wp2_with (first | (go_at_call 18; refine (sameLongs_calls raw raw _ _ _ _ _ hm hr4 hrl2).mono ?_; rintro e w5 ⟨rfl, hb5⟩))
      go_ret
      exact ⟨by first | rfl | (rw [decide_eq_true rfl]; rfl), (B3.trans (((here_alloc _ _).trans (hb4.mono (by simp))).mono B3.size)).trans (hb5.mono (by have := B3.size; have := hb4.size; simp at this; omega))⟩
    · rw [errV_pos hz]
      go_wp2_with (fail)
      go_ret
      exact ⟨rfl, B3.alloc B3.size _⟩
  case first =>
    clear hr0 hrl hrc hr hG
    go_wp2_with (fail)
    refine (decode_calls A (encL o).length (encL o) w2 hl (Nat.le_refl _) hll).mono ?_
    rintro e w3 ⟨XL, XP, he, hXL, hXP, hb3⟩
    rw [dec_enc o hc] at he hXL hXP
    obtain ⟨XA, xc, rfl⟩ := own_slice_n hXL
    obtain ⟨XB, xd, rfl⟩ := own_slice_n hXP
    simp only [toM, OpM.cs, opCs, errV_zero] at he hXL hXP
    subst he
    have hxl := Reads.of_own hXL
    have hxp := Reads.of_own hXP
    have hXn : (ownM o).legs.length ≤ 17592186044416 ∧ (ownM o).pairs.length ≤ 17592186044416 := own_len o hol hop
    clear hXL hXP
    generalize hoo : ownM o = oo at hxl hxp hXn
    have HOO := Lib.hid hoo
    replace b1 := b1.up hb3
    replace b2 := b2.up hb3
    replace hoL := hoL.up hb3
    replace hoP := hoP.up hb3
    replace hpL := hpL.up hb3
    replace hpP := hpP.up hb3
    replace hl := hl.up hb3
    replace B := B.trans (hb3.mono B.size)
    clear hb3 hoo
    have m0 : ∀ ob, (w3.alloc ob).cell? ⟨g + 1, 0, none⟩ = some (.int .i64 p.code) := fun ob => cell_alloc (b2.cell 0) ob
    have m1 : ∀ ob, (w3.alloc ob).cell? ⟨g + 1, 1, none⟩ = some (.int .i64 p.acc) := fun ob => cell_alloc (b2.cell 1) ob
    have m2 : ∀ ob, (w3.alloc ob).cell? ⟨g + 1, 2, none⟩ = some (.int .i64 p.ast) := fun ob => cell_alloc (b2.cell 2) ob
    have m3 : ∀ ob, (w3.alloc ob).cell? ⟨g + 1, 3, none⟩ = some (.int .i64 p.qty) := fun ob => cell_alloc (b2.cell 3) ob
    have m4 : ∀ ob, (w3.alloc ob).cell? ⟨g + 1, 4, none⟩ = some (.int .i64 p.name) := fun ob => cell_alloc (b2.cell 4) ob
    have m5 : ∀ ob, (w3.alloc ob).cell? ⟨g + 1, 5, none⟩ = some (.int .i64 p.id) := fun ob => cell_alloc (b2.cell 5) ob
    have m6 : ∀ ob, (w3.alloc ob).cell? ⟨g + 1, 6, none⟩ = some (.slice pL p.legs.length plc) := fun ob => cell_alloc (b2.cell 6) ob
    have m7 : ∀ ob, (w3.alloc ob).cell? ⟨g + 1, 7, none⟩ = some (.slice pP p.pairs.length ppc) := fun ob => cell_alloc (b2.cell 7) ob
    go_wp2_with (fail)
    obtain ⟨V3, hV3⟩ : ∃ V, w3.alloc (.cells #[.int .i64 oo.code, .int .i64 oo.acc, .int .i64 oo.ast, .int .i64 oo.qty, .int .i64 oo.name, .int .i64 oo.id, .slice XA oo.legs.length xc, .slice XB oo.pairs.length xd] 33) = V := ⟨_, rfl⟩
    rw [hV3]
    have hbV : Below w3.heap.size w3 V3 := hV3 ▸ here_alloc _ _
    have b3 : Blk V3 w3.heap.size 33 #[.int .i64 oo.code, .int .i64 oo.acc, .int .i64 oo.ast, .int .i64 oo.qty, .int .i64 oo.name, .int .i64 oo.id, .slice XA oo.legs.length xc, .slice XB oo.pairs.length xd] := hV3 ▸ Blk.new _ _ _
    replace b1 := b1.up hbV
    replace b2 := b2.up hbV
    replace hoL := hoL.up hbV
    replace hoP := hoP.up hbV
    replace hpL := hpL.up hbV
    replace hpP := hpP.up hbV
    replace hl := hl.up hbV
    replace hxl := hxl.up hbV
    replace hxp := hxp.up hbV
    replace B := B.trans (hbV.mono B.size)
    clear m0 m1 m2 m3 m4 m5 m6 m7
    clear hV3 hbV
    generalize w3.heap.size = gx at b3
    by_cases hp : 1 ≤ p.code ∧ p.code ≤ 8
    case pos =>
      refine (encode_calls p pL pP plc ppc V3 hpL hpP hpl hpp).mono ?_
      rintro e w4 he
      unfold EncPost at he
      rw [if_pos hp] at he
      obtain ⟨M, rfl, hcm, hb4⟩ := he
      have hm := clip_reads hcm
      clear hcm
      replace b1 := b1.up hb4
      replace b2 := b2.up hb4
      replace hoL := hoL.up hb4
      replace hoP := hoP.up hb4
      replace hpL := hpL.up hb4
      replace hpP := hpP.up hb4
      replace hl := hl.up hb4
      replace b3 := b3.up hb4
      replace hxl := hxl.up hb4
      replace hxp := hxp.up hb4
      replace B := B.trans (hb4.mono B.size)
      clear hb4
      have k0 : w4.cell? ⟨g, 0, none⟩ = some (.int .i64 o.code) := b1.cell 0
      have k1 : w4.cell? ⟨g, 1, none⟩ = some (.int .i64 o.acc) := b1.cell 1
      have k2 : w4.cell? ⟨g, 2, none⟩ = some (.int .i64 o.ast) := b1.cell 2
      have k3 : w4.cell? ⟨g, 3, none⟩ = some (.int .i64 o.qty) := b1.cell 3
      have k4 : w4.cell? ⟨g, 4, none⟩ = some (.int .i64 o.name) := b1.cell 4
      have k5 : w4.cell? ⟨g, 5, none⟩ = some (.int .i64 o.id) := b1.cell 5
      have k6 : w4.cell? ⟨g, 6, none⟩ = some (.slice oL o.legs.length olc) := b1.cell 6
      have k7 : w4.cell? ⟨g, 7, none⟩ = some (.slice oP o.pairs.length opc) := b1.cell 7
      go_wp2_with (fail)
      refine (own_calls o oL oP olc opc w4 hoL hoP hol hop).mono ?_
      rintro e w5 ⟨YL, YP, he, hYL, hYP, hb5⟩
      rw [HOO.out] at he hYL hYP
      obtain ⟨YA, yc, rfl⟩ := own_slice_n hYL
      obtain ⟨YB, yd, rfl⟩ := own_slice_n hYP
      simp only [opCs] at he
      subst he
      have hyl := Reads.of_own hYL
      have hyp := Reads.of_own hYP
      clear hYL hYP
      clear k0 k1 k2 k3 k4 k5 k6 k7
      replace b1 := b1.up hb5
      replace b2 := b2.up hb5
      replace hoL := hoL.up hb5
      replace hoP := hoP.up hb5
      replace hpL := hpL.up hb5
      replace hpP := hpP.up hb5
      replace hl := hl.up hb5
      replace b3 := b3.up hb5
      replace hxl := hxl.up hb5
      replace hxp := hxp.up hb5
      replace hm := hm.up hb5
      replace B := B.trans (hb5.mono B.size)
      clear hb5
      have m0 : ∀ ob, (w5.alloc ob).cell? ⟨gx, 0, none⟩ = some (.int .i64 oo.code) := fun ob => cell_alloc (b3.cell 0) ob
      have m1 : ∀ ob, (w5.alloc ob).cell? ⟨gx, 1, none⟩ = some (.int .i64 oo.acc) := fun ob => cell_alloc (b3.cell 1) ob
      have m2 : ∀ ob, (w5.alloc ob).cell? ⟨gx, 2, none⟩ = some (.int .i64 oo.ast) := fun ob => cell_alloc (b3.cell 2) ob
      have m3 : ∀ ob, (w5.alloc ob).cell? ⟨gx, 3, none⟩ = some (.int .i64 oo.qty) := fun ob => cell_alloc (b3.cell 3) ob
      have m4 : ∀ ob, (w5.alloc ob).cell? ⟨gx, 4, none⟩ = some (.int .i64 oo.name) := fun ob => cell_alloc (b3.cell 4) ob
      have m5 : ∀ ob, (w5.alloc ob).cell? ⟨gx, 5, none⟩ = some (.int .i64 oo.id) := fun ob => cell_alloc (b3.cell 5) ob
      have m6 : ∀ ob, (w5.alloc ob).cell? ⟨gx, 6, none⟩ = some (.slice XA oo.legs.length xc) := fun ob => cell_alloc (b3.cell 6) ob
      have m7 : ∀ ob, (w5.alloc ob).cell? ⟨gx, 7, none⟩ = some (.slice XB oo.pairs.length xd) := fun ob => cell_alloc (b3.cell 7) ob
      go_wp2_with (fail)
      obtain ⟨V5, hV5⟩ : ∃ V, w5.alloc (.cells #[.int .i64 oo.code, .int .i64 oo.acc, .int .i64 oo.ast, .int .i64 oo.qty, .int .i64 oo.name, .int .i64 oo.id, .slice YA oo.legs.length yc, .slice YB oo.pairs.length yd] 33) = V := ⟨_, rfl⟩
      rw [hV5]
      have hbV : Below w5.heap.size w5 V5 := hV5 ▸ here_alloc _ _
      have b4 : Blk V5 w5.heap.size 33 #[.int .i64 oo.code, .int .i64 oo.acc, .int .i64 oo.ast, .int .i64 oo.qty, .int .i64 oo.name, .int .i64 oo.id, .slice YA oo.legs.length yc, .slice YB oo.pairs.length yd] := hV5 ▸ Blk.new _ _ _
      replace b1 := b1.up hbV
      replace b2 := b2.up hbV
      replace hoL := hoL.up hbV
      replace hoP := hoP.up hbV
      replace hpL := hpL.up hbV
      replace hpP := hpP.up hbV
      replace hl := hl.up hbV
      replace b3 := b3.up hbV
      replace hxl := hxl.up hbV
      replace hxp := hxp.up hbV
      replace hyl := hyl.up hbV
      replace hyp := hyp.up hbV
      replace hm := hm.up hbV
      replace B := B.trans (hbV.mono B.size)
      clear m0 m1 m2 m3 m4 m5 m6 m7
      clear hV5 hbV
      generalize w5.heap.size = gy at b4
      refine (sameOp_calls oo oo XA XB YA YB xc xd yc yd V5 hxl hxp hyl hyp hXn.1 hXn.2).mono ?_
      rintro e w6 ⟨rfl, hb6⟩
      rw [decide_eq_true rfl]
      replace b1 := b1.up hb6
      replace b2 := b2.up hb6
      replace hoL := hoL.up hb6
      replace hoP := hoP.up hb6
      replace hpL := hpL.up hb6
      replace hpP := hpP.up hb6
      replace hl := hl.up hb6
      replace b3 := b3.up hb6
      replace hxl := hxl.up hb6
      replace hxp := hxp.up hb6
      replace b4 := b4.up hb6
      replace hyl := hyl.up hb6
      replace hyp := hyp.up hb6
      replace hm := hm.up hb6
      replace B := B.trans (hb6.mono B.size)
      clear hb6
      have k0 : w6.cell? ⟨gy, 0, none⟩ = some (.int .i64 oo.code) := b4.cell 0
      have k1 : w6.cell? ⟨gy, 1, none⟩ = some (.int .i64 oo.acc) := b4.cell 1
      have k2 : w6.cell? ⟨gy, 2, none⟩ = some (.int .i64 oo.ast) := b4.cell 2
      have k3 : w6.cell? ⟨gy, 3, none⟩ = some (.int .i64 oo.qty) := b4.cell 3
      have k4 : w6.cell? ⟨gy, 4, none⟩ = some (.int .i64 oo.name) := b4.cell 4
      have k5 : w6.cell? ⟨gy, 5, none⟩ = some (.int .i64 oo.id) := b4.cell 5
      have k6 : w6.cell? ⟨gy, 6, none⟩ = some (.slice YA oo.legs.length yc) := b4.cell 6
      have k7 : w6.cell? ⟨gy, 7, none⟩ = some (.slice YB oo.pairs.length yd) := b4.cell 7
      have m0 : w6.cell? ⟨g + 1, 0, none⟩ = some (.int .i64 p.code) := b2.cell 0
      have m1 : w6.cell? ⟨g + 1, 1, none⟩ = some (.int .i64 p.acc) := b2.cell 1
      have m2 : w6.cell? ⟨g + 1, 2, none⟩ = some (.int .i64 p.ast) := b2.cell 2
      have m3 : w6.cell? ⟨g + 1, 3, none⟩ = some (.int .i64 p.qty) := b2.cell 3
      have m4 : w6.cell? ⟨g + 1, 4, none⟩ = some (.int .i64 p.name) := b2.cell 4
      have m5 : w6.cell? ⟨g + 1, 5, none⟩ = some (.int .i64 p.id) := b2.cell 5
      have m6 : w6.cell? ⟨g + 1, 6, none⟩ = some (.slice pL p.legs.length plc) := b2.cell 6
      have m7 : w6.cell? ⟨g + 1, 7, none⟩ = some (.slice pP p.pairs.length ppc) := b2.cell 7
      have hyn := hXn
      go_wp2_with (fail)
      go_region_held3 (fun w' => w'.cell? ⟨gy, 0, none⟩ = some (.int .i64 oo.code) ∧ w'.cell? ⟨gy, 1, none⟩ = some (.int .i64 oo.acc) ∧ w'.cell? ⟨gy, 2, none⟩ = some (.int .i64 oo.ast) ∧ w'.cell? ⟨gy, 3, none⟩ = some (.int .i64 oo.qty) ∧ w'.cell? ⟨gy, 4, none⟩ = some (.int .i64 oo.name) ∧ w'.cell? ⟨gy, 5, none⟩ = some (.int .i64 oo.id) ∧ w'.cell? ⟨gy, 6, none⟩ = some (.slice YA oo.legs.length yc) ∧ w'.cell? ⟨gy, 7, none⟩ = some (.slice YB oo.pairs.length yd) ∧ w'.cell? ⟨g + 1, 0, none⟩ = some (.int .i64 p.code) ∧ w'.cell? ⟨g + 1, 1, none⟩ = some (.int .i64 p.acc) ∧ w'.cell? ⟨g + 1, 2, none⟩ = some (.int .i64 p.ast) ∧ w'.cell? ⟨g + 1, 3, none⟩ = some (.int .i64 p.qty) ∧ w'.cell? ⟨g + 1, 4, none⟩ = some (.int .i64 p.name) ∧ w'.cell? ⟨g + 1, 5, none⟩ = some (.int .i64 p.id) ∧ w'.cell? ⟨g + 1, 6, none⟩ = some (.slice pL p.legs.length plc) ∧ w'.cell? ⟨g + 1, 7, none⟩ = some (.slice pP p.pairs.length ppc))
        (first | go_keep | fail)
        (first
          | (go_at_call 32; refine (own_calls p pL pP plc ppc w6.drew hpL hpP hpl hpp).mono ?_; rintro e w7 ⟨ZL, ZP, he, hZL, hZP, hb7⟩; obtain ⟨ZA, zc, rfl⟩ := own_slice_n hZL; obtain ⟨ZB, zd, rfl⟩ := own_slice_n hZP; simp only [opCs] at he; subst he; have hzl := Reads.of_own hZL; have hzp := Reads.of_own hZP; have q0 := cell_below (w := w6.drew) hb7 k0; have r0 := cell_below (w := w6.drew) hb7 m0; have q1 := cell_below (w := w6.drew) hb7 k1; have r1 := cell_below (w := w6.drew) hb7 m1; have q2 := cell_below (w := w6.drew) hb7 k2; have r2 := cell_below (w := w6.drew) hb7 m2; have q3 := cell_below (w := w6.drew) hb7 k3; have r3 := cell_below (w := w6.drew) hb7 m3; have q4 := cell_below (w := w6.drew) hb7 k4; have r4 := cell_below (w := w6.drew) hb7 m4; have q5 := cell_below (w := w6.drew) hb7 k5; have r5 := cell_below (w := w6.drew) hb7 m5; have q6 := cell_below (w := w6.drew) hb7 k6; have r6 := cell_below (w := w6.drew) hb7 m6; have q7 := cell_below (w := w6.drew) hb7 k7; have r7 := cell_below (w := w6.drew) hb7 m7)
          | (go_at_call 27; refine (sameOp_calls oo (ownM p) YA YB ZA ZB yc yd zc zd w7 (Reads.up (w := w6.drew) hyl hb7) (Reads.up (w := w6.drew) hyp hb7) hzl hzp hXn.1 hXn.2).mono ?_; rintro e w8 ⟨rfl, hb8⟩; have s0 := cell_below hb8 q0; have u0 := cell_below hb8 r0; have s1 := cell_below hb8 q1; have u1 := cell_below hb8 r1; have s2 := cell_below hb8 q2; have u2 := cell_below hb8 r2; have s3 := cell_below hb8 q3; have u3 := cell_below hb8 r3; have s4 := cell_below hb8 q4; have u4 := cell_below hb8 r4; have s5 := cell_below hb8 q5; have u5 := cell_below hb8 r5; have s6 := cell_below hb8 q6; have u6 := cell_below hb8 r6; have s7 := cell_below hb8 q7; have u7 := cell_below hb8 r7))
      replace hb7 : Below w6.heap.size w6 w7 := (Below.refl _ _).drew.trans hb7
      clear k0 k1 k2 k3 k4 k5 k6 k7
      clear m0 m1 m2 m3 m4 m5 m6 m7
      replace hl := hl.up hb7
      replace hm := hm.up hb7
      replace B := B.trans (hb7.mono B.size)
      replace hl := hl.up hb8
      replace hm := hm.up hb8
      replace B := B.trans (hb8.mono B.size)
      have hal : decide (encL o = encL p) = decide (oo = ownM p) := by rw [← HOO.out]; exact decide_eq_decide.2 (alike o p hc hp)
      generalize decide (oo = ownM p) = D at hal
      go_wp2_with (first | (go_at_call 18; refine (sameLongs_calls (encL o) (encL p) A M _ _ w8 hl hm hll).mono ?_; rintro e w9 ⟨rfl, hb9⟩; rw [hal]))
      go_meet
      case rel => exact B.trans (hb9.mono B.size)
    case neg =>
      refine (encode_calls p pL pP plc ppc V3 hpL hpP hpl hpp).mono ?_
      rintro e w4 he
      unfold EncPost at he
      rw [if_neg hp] at he
      obtain ⟨rfl, hb4⟩ := he
      rw [errV_pos (by decide : (1 : Int) ≤ 13)]
      replace b1 := b1.up hb4
      replace b2 := b2.up hb4
      replace hoL := hoL.up hb4
      replace hoP := hoP.up hb4
      replace hpL := hpL.up hb4
      replace hpP := hpP.up hb4
      replace hl := hl.up hb4
      replace b3 := b3.up hb4
      replace hxl := hxl.up hb4
      replace hxp := hxp.up hb4
      replace B := B.trans (hb4.mono B.size)
      clear hb4
      have k0 : w4.cell? ⟨g, 0, none⟩ = some (.int .i64 o.code) := b1.cell 0
      have k1 : w4.cell? ⟨g, 1, none⟩ = some (.int .i64 o.acc) := b1.cell 1
      have k2 : w4.cell? ⟨g, 2, none⟩ = some (.int .i64 o.ast) := b1.cell 2
      have k3 : w4.cell? ⟨g, 3, none⟩ = some (.int .i64 o.qty) := b1.cell 3
      have k4 : w4.cell? ⟨g, 4, none⟩ = some (.int .i64 o.name) := b1.cell 4
      have k5 : w4.cell? ⟨g, 5, none⟩ = some (.int .i64 o.id) := b1.cell 5
      have k6 : w4.cell? ⟨g, 6, none⟩ = some (.slice oL o.legs.length olc) := b1.cell 6
      have k7 : w4.cell? ⟨g, 7, none⟩ = some (.slice oP o.pairs.length opc) := b1.cell 7
      go_wp2_with (fail)
      refine (own_calls o oL oP olc opc w4 hoL hoP hol hop).mono ?_
      rintro e w5 ⟨YL, YP, he, hYL, hYP, hb5⟩
      rw [HOO.out] at he hYL hYP
      obtain ⟨YA, yc, rfl⟩ := own_slice_n hYL
      obtain ⟨YB, yd, rfl⟩ := own_slice_n hYP
      simp only [opCs] at he
      subst he
      have hyl := Reads.of_own hYL
      have hyp := Reads.of_own hYP
      clear hYL hYP
      clear k0 k1 k2 k3 k4 k5 k6 k7
      replace b1 := b1.up hb5
      replace b2 := b2.up hb5
      replace hoL := hoL.up hb5
      replace hoP := hoP.up hb5
      replace hpL := hpL.up hb5
      replace hpP := hpP.up hb5
      replace hl := hl.up hb5
      replace b3 := b3.up hb5
      replace hxl := hxl.up hb5
      replace hxp := hxp.up hb5
      replace B := B.trans (hb5.mono B.size)
      clear hb5
      have m0 : ∀ ob, (w5.alloc ob).cell? ⟨gx, 0, none⟩ = some (.int .i64 oo.code) := fun ob => cell_alloc (b3.cell 0) ob
      have m1 : ∀ ob, (w5.alloc ob).cell? ⟨gx, 1, none⟩ = some (.int .i64 oo.acc) := fun ob => cell_alloc (b3.cell 1) ob
      have m2 : ∀ ob, (w5.alloc ob).cell? ⟨gx, 2, none⟩ = some (.int .i64 oo.ast) := fun ob => cell_alloc (b3.cell 2) ob
      have m3 : ∀ ob, (w5.alloc ob).cell? ⟨gx, 3, none⟩ = some (.int .i64 oo.qty) := fun ob => cell_alloc (b3.cell 3) ob
      have m4 : ∀ ob, (w5.alloc ob).cell? ⟨gx, 4, none⟩ = some (.int .i64 oo.name) := fun ob => cell_alloc (b3.cell 4) ob
      have m5 : ∀ ob, (w5.alloc ob).cell? ⟨gx, 5, none⟩ = some (.int .i64 oo.id) := fun ob => cell_alloc (b3.cell 5) ob
      have m6 : ∀ ob, (w5.alloc ob).cell? ⟨gx, 6, none⟩ = some (.slice XA oo.legs.length xc) := fun ob => cell_alloc (b3.cell 6) ob
      have m7 : ∀ ob, (w5.alloc ob).cell? ⟨gx, 7, none⟩ = some (.slice XB oo.pairs.length xd) := fun ob => cell_alloc (b3.cell 7) ob
      go_wp2_with (fail)
      obtain ⟨V5, hV5⟩ : ∃ V, w5.alloc (.cells #[.int .i64 oo.code, .int .i64 oo.acc, .int .i64 oo.ast, .int .i64 oo.qty, .int .i64 oo.name, .int .i64 oo.id, .slice YA oo.legs.length yc, .slice YB oo.pairs.length yd] 33) = V := ⟨_, rfl⟩
      rw [hV5]
      have hbV : Below w5.heap.size w5 V5 := hV5 ▸ here_alloc _ _
      have b4 : Blk V5 w5.heap.size 33 #[.int .i64 oo.code, .int .i64 oo.acc, .int .i64 oo.ast, .int .i64 oo.qty, .int .i64 oo.name, .int .i64 oo.id, .slice YA oo.legs.length yc, .slice YB oo.pairs.length yd] := hV5 ▸ Blk.new _ _ _
      replace b1 := b1.up hbV
      replace b2 := b2.up hbV
      replace hoL := hoL.up hbV
      replace hoP := hoP.up hbV
      replace hpL := hpL.up hbV
      replace hpP := hpP.up hbV
      replace hl := hl.up hbV
      replace b3 := b3.up hbV
      replace hxl := hxl.up hbV
      replace hxp := hxp.up hbV
      replace hyl := hyl.up hbV
      replace hyp := hyp.up hbV
      replace B := B.trans (hbV.mono B.size)
      clear m0 m1 m2 m3 m4 m5 m6 m7
      clear hV5 hbV
      generalize w5.heap.size = gy at b4
      refine (sameOp_calls oo oo XA XB YA YB xc xd yc yd V5 hxl hxp hyl hyp hXn.1 hXn.2).mono ?_
      rintro e w6 ⟨rfl, hb6⟩
      rw [decide_eq_true rfl]
      replace b1 := b1.up hb6
      replace b2 := b2.up hb6
      replace hoL := hoL.up hb6
      replace hoP := hoP.up hb6
      replace hpL := hpL.up hb6
      replace hpP := hpP.up hb6
      replace hl := hl.up hb6
      replace b3 := b3.up hb6
      replace hxl := hxl.up hb6
      replace hxp := hxp.up hb6
      replace b4 := b4.up hb6
      replace hyl := hyl.up hb6
      replace hyp := hyp.up hb6
      replace B := B.trans (hb6.mono B.size)
      clear hb6
      have k0 : w6.cell? ⟨gy, 0, none⟩ = some (.int .i64 oo.code) := b4.cell 0
      have k1 : w6.cell? ⟨gy, 1, none⟩ = some (.int .i64 oo.acc) := b4.cell 1
      have k2 : w6.cell? ⟨gy, 2, none⟩ = some (.int .i64 oo.ast) := b4.cell 2
      have k3 : w6.cell? ⟨gy, 3, none⟩ = some (.int .i64 oo.qty) := b4.cell 3
      have k4 : w6.cell? ⟨gy, 4, none⟩ = some (.int .i64 oo.name) := b4.cell 4
      have k5 : w6.cell? ⟨gy, 5, none⟩ = some (.int .i64 oo.id) := b4.cell 5
      have k6 : w6.cell? ⟨gy, 6, none⟩ = some (.slice YA oo.legs.length yc) := b4.cell 6
      have k7 : w6.cell? ⟨gy, 7, none⟩ = some (.slice YB oo.pairs.length yd) := b4.cell 7
      have m0 : w6.cell? ⟨g + 1, 0, none⟩ = some (.int .i64 p.code) := b2.cell 0
      have m1 : w6.cell? ⟨g + 1, 1, none⟩ = some (.int .i64 p.acc) := b2.cell 1
      have m2 : w6.cell? ⟨g + 1, 2, none⟩ = some (.int .i64 p.ast) := b2.cell 2
      have m3 : w6.cell? ⟨g + 1, 3, none⟩ = some (.int .i64 p.qty) := b2.cell 3
      have m4 : w6.cell? ⟨g + 1, 4, none⟩ = some (.int .i64 p.name) := b2.cell 4
      have m5 : w6.cell? ⟨g + 1, 5, none⟩ = some (.int .i64 p.id) := b2.cell 5
      have m6 : w6.cell? ⟨g + 1, 6, none⟩ = some (.slice pL p.legs.length plc) := b2.cell 6
      have m7 : w6.cell? ⟨g + 1, 7, none⟩ = some (.slice pP p.pairs.length ppc) := b2.cell 7
      have hyn := hXn
      go_wp2_with (fail)
      go_region_held3 (fun w' => w'.cell? ⟨gy, 0, none⟩ = some (.int .i64 oo.code) ∧ w'.cell? ⟨gy, 1, none⟩ = some (.int .i64 oo.acc) ∧ w'.cell? ⟨gy, 2, none⟩ = some (.int .i64 oo.ast) ∧ w'.cell? ⟨gy, 3, none⟩ = some (.int .i64 oo.qty) ∧ w'.cell? ⟨gy, 4, none⟩ = some (.int .i64 oo.name) ∧ w'.cell? ⟨gy, 5, none⟩ = some (.int .i64 oo.id) ∧ w'.cell? ⟨gy, 6, none⟩ = some (.slice YA oo.legs.length yc) ∧ w'.cell? ⟨gy, 7, none⟩ = some (.slice YB oo.pairs.length yd) ∧ w'.cell? ⟨g + 1, 0, none⟩ = some (.int .i64 p.code) ∧ w'.cell? ⟨g + 1, 1, none⟩ = some (.int .i64 p.acc) ∧ w'.cell? ⟨g + 1, 2, none⟩ = some (.int .i64 p.ast) ∧ w'.cell? ⟨g + 1, 3, none⟩ = some (.int .i64 p.qty) ∧ w'.cell? ⟨g + 1, 4, none⟩ = some (.int .i64 p.name) ∧ w'.cell? ⟨g + 1, 5, none⟩ = some (.int .i64 p.id) ∧ w'.cell? ⟨g + 1, 6, none⟩ = some (.slice pL p.legs.length plc) ∧ w'.cell? ⟨g + 1, 7, none⟩ = some (.slice pP p.pairs.length ppc))
        (first | go_keep | fail)
        (first
          | (go_at_call 32; refine (own_calls p pL pP plc ppc w6.drew hpL hpP hpl hpp).mono ?_; rintro e w7 ⟨ZL, ZP, he, hZL, hZP, hb7⟩; obtain ⟨ZA, zc, rfl⟩ := own_slice_n hZL; obtain ⟨ZB, zd, rfl⟩ := own_slice_n hZP; simp only [opCs] at he; subst he; have hzl := Reads.of_own hZL; have hzp := Reads.of_own hZP; have q0 := cell_below (w := w6.drew) hb7 k0; have r0 := cell_below (w := w6.drew) hb7 m0; have q1 := cell_below (w := w6.drew) hb7 k1; have r1 := cell_below (w := w6.drew) hb7 m1; have q2 := cell_below (w := w6.drew) hb7 k2; have r2 := cell_below (w := w6.drew) hb7 m2; have q3 := cell_below (w := w6.drew) hb7 k3; have r3 := cell_below (w := w6.drew) hb7 m3; have q4 := cell_below (w := w6.drew) hb7 k4; have r4 := cell_below (w := w6.drew) hb7 m4; have q5 := cell_below (w := w6.drew) hb7 k5; have r5 := cell_below (w := w6.drew) hb7 m5; have q6 := cell_below (w := w6.drew) hb7 k6; have r6 := cell_below (w := w6.drew) hb7 m6; have q7 := cell_below (w := w6.drew) hb7 k7; have r7 := cell_below (w := w6.drew) hb7 m7)
          | (go_at_call 27; refine (sameOp_calls oo (ownM p) YA YB ZA ZB yc yd zc zd w7 (Reads.up (w := w6.drew) hyl hb7) (Reads.up (w := w6.drew) hyp hb7) hzl hzp hXn.1 hXn.2).mono ?_; rintro e w8 ⟨rfl, hb8⟩; have s0 := cell_below hb8 q0; have u0 := cell_below hb8 r0; have s1 := cell_below hb8 q1; have u1 := cell_below hb8 r1; have s2 := cell_below hb8 q2; have u2 := cell_below hb8 r2; have s3 := cell_below hb8 q3; have u3 := cell_below hb8 r3; have s4 := cell_below hb8 q4; have u4 := cell_below hb8 r4; have s5 := cell_below hb8 q5; have u5 := cell_below hb8 r5; have s6 := cell_below hb8 q6; have u6 := cell_below hb8 r6; have s7 := cell_below hb8 q7; have u7 := cell_below hb8 r7))
      replace hb7 : Below w6.heap.size w6 w7 := (Below.refl _ _).drew.trans hb7
      clear k0 k1 k2 k3 k4 k5 k6 k7
      clear m0 m1 m2 m3 m4 m5 m6 m7
      replace hl := hl.up hb7
      replace B := B.trans (hb7.mono B.size)
      replace hl := hl.up hb8
      replace B := B.trans (hb8.mono B.size)
      have hun : decide (oo = ownM p) = false := by rw [← HOO.out]; exact decide_eq_false (unlike o p hc hp)
      rw [hun]
      go_wp2
      go_meet
      case rel => exact B

set_option maxRecDepth 100000 in
set_option maxHeartbeats 8000000 in
theorem back_low (o p : Op) (oL oP pL pP rA : Option Addr) (olc opc plc ppc rc : Nat) (raw : List Int) (w : World)
    (hoL : Reads w w.heap.size 5 oL o.legs.length (legsC o.legs)) (hoP : Reads w w.heap.size 2 oP o.pairs.length (keysC o.pairs)) (hpL : Reads w w.heap.size 5 pL p.legs.length (legsC p.legs)) (hpP : Reads w w.heap.size 2 pP p.pairs.length (keysC p.pairs)) (hr : Reads w w.heap.size 1 rA raw.length (intsC raw))
    (hol : o.legs.length * 40 ≤ 140737488351232) (hop : o.pairs.length * 16 ≤ 140737488351232) (hpl : p.legs.length * 40 ≤ 140737488351232) (hpp : p.pairs.length * 16 ≤ 140737488351232) (hrl : raw.length * 8 ≤ 140737488351232) (hrc : raw.length ≤ rc) (hG : HG w) (hc : o.code < 1) :
    Calls Tryd.prog 9 #[.agg #[.int .i64 o.code, .int .i64 o.acc, .int .i64 o.ast, .int .i64 o.qty, .int .i64 o.name, .int .i64 o.id, .slice oL o.legs.length olc, .slice oP o.pairs.length opc], .agg #[.int .i64 p.code, .int .i64 p.acc, .int .i64 p.ast, .int .i64 p.qty, .int .i64 p.name, .int .i64 p.id, .slice pL p.legs.length plc, .slice pP p.pairs.length ppc], .slice rA raw.length rc] w fun e w' => e = .returned (.bool true) ∧ Below w.heap.size w w' := by
  obtain ⟨g, hg⟩ : ∃ g, w.heap.size = g := ⟨_, rfl⟩
  obtain ⟨W2, hW2⟩ : ∃ W2, (w.alloc (.cells #[.int .i64 o.code, .int .i64 o.acc, .int .i64 o.ast, .int .i64 o.qty, .int .i64 o.name, .int .i64 o.id, .slice oL o.legs.length olc, .slice oP o.pairs.length opc] 33)).alloc (.cells #[.int .i64 p.code, .int .i64 p.acc, .int .i64 p.ast, .int .i64 p.qty, .int .i64 p.name, .int .i64 p.id, .slice pL p.legs.length plc, .slice pP p.pairs.length ppc] 33) = W2 := ⟨_, rfl⟩
  have B : Below w.heap.size w W2 := hW2 ▸ ((Below.refl _ _).alloc (Nat.le_refl _) _).alloc (by simp) _
  have b1 : Blk W2 g 33 #[.int .i64 o.code, .int .i64 o.acc, .int .i64 o.ast, .int .i64 o.qty, .int .i64 o.name, .int .i64 o.id, .slice oL o.legs.length olc, .slice oP o.pairs.length opc] := by rw [← hW2, ← hg]; exact (Blk.new _ _ _).alloc _
  have b2 : Blk W2 (g + 1) 33 #[.int .i64 p.code, .int .i64 p.acc, .int .i64 p.ast, .int .i64 p.qty, .int .i64 p.name, .int .i64 p.id, .slice pL p.legs.length plc, .slice pP p.pairs.length ppc] := by rw [← hW2, ← hg]; have h := Blk.new (w.alloc (.cells #[.int .i64 o.code, .int .i64 o.acc, .int .i64 o.ast, .int .i64 o.qty, .int .i64 o.name, .int .i64 o.id, .slice oL o.legs.length olc, .slice oP o.pairs.length opc] 33)) 33 #[.int .i64 p.code, .int .i64 p.acc, .int .i64 p.ast, .int .i64 p.qty, .int .i64 p.name, .int .i64 p.id, .slice pL p.legs.length plc, .slice pP p.pairs.length ppc]; simpa using h
  have hr0 := hr
  replace hoL := hoL.up B
  replace hoP := hoP.up B
  replace hpL := hpL.up B
  replace hpP := hpP.up B
  replace hr := hr.up B
  have k0 : W2.cell? ⟨g, 0, none⟩ = some (.int .i64 o.code) := b1.cell 0
  have k1 : W2.cell? ⟨g, 1, none⟩ = some (.int .i64 o.acc) := b1.cell 1
  have k2 : W2.cell? ⟨g, 2, none⟩ = some (.int .i64 o.ast) := b1.cell 2
  have k3 : W2.cell? ⟨g, 3, none⟩ = some (.int .i64 o.qty) := b1.cell 3
  have k4 : W2.cell? ⟨g, 4, none⟩ = some (.int .i64 o.name) := b1.cell 4
  have k5 : W2.cell? ⟨g, 5, none⟩ = some (.int .i64 o.id) := b1.cell 5
  have k6 : W2.cell? ⟨g, 6, none⟩ = some (.slice oL o.legs.length olc) := b1.cell 6
  have k7 : W2.cell? ⟨g, 7, none⟩ = some (.slice oP o.pairs.length opc) := b1.cell 7
  have B1 := Lib.hid b1
  have B2 := Lib.hid b2
  clear b1 b2
  go_enter Tryd.func9, Tryd.ntmps9
  go_wp2_with (fail)
  refine (encode_calls o oL oP olc opc W2 hoL hoP hol hop).mono ?_
  rintro e w1 he
  unfold EncPost at he
  rw [if_neg (by omega)] at he
  obtain ⟨rfl, hb1⟩ := he
  rw [errV_pos (by decide : (1 : Int) ≤ 13)]
  have b1 := B1.out
  have b2 := B2.out
  clear B1 B2 hW2 k0 k1 k2 k3 k4 k5 k6 k7
  replace b1 := b1.up hb1
  replace b2 := b2.up hb1
  replace hoL := hoL.up hb1
  replace hoP := hoP.up hb1
  replace hpL := hpL.up hb1
  replace hpP := hpP.up hb1
  replace hr := hr.up hb1
  replace B := B.trans (hb1.mono B.size)
  have k0 : w1.cell? ⟨g, 0, none⟩ = some (.int .i64 o.code) := b1.cell 0
  have hc1 : decide ((1 : Int) ≤ o.code) = false := decide_eq_false (by omega)
  have hc3 : ¬ (1 : Int) ≤ o.code := by omega
  have hc4 : ((1 : Int) ≤ o.code) = False := eq_false (by omega)
  have hG1 : HG w1 := hG.below B
  clear hb1
  go_wp2_with (fail)
  refine wp_region_class (InB w1) (by kernel_rfl) (by kernel_rfl) (InB.start _) ?_
  refine BigFrame.wpQuiet_want (by rfl) (fun K hK => ?_)
  refine quiet_call 33 #[] (.bool true) (fun W => ?_) (fun W hW => ?_) (hK _ ?_)
  · clear hK
    go_simp
  · refine (works_calls W (hG1.below hW)).mono ?_
    rintro e w' ⟨rfl, hb⟩
    exact ⟨rfl, hW.trans hb⟩
  clear hK K
  simp only [Act.put, List.setIfInBounds_toArray, List.set_cons_zero, List.set_cons_succ]
  refine BigFrame.wpQuiet_want (by rfl) (fun K hK => ?_)
  refine quiet_value (.bool false) (fun W hW => ?_) (hK _ ?_)
  · clear hK
    clear hW
    go_simp
  clear hK K
  simp only [Act.put, List.setIfInBounds_toArray, List.set_cons_zero, List.set_cons_succ]
  refine BigFrame.wpQuiet_want (by rfl) (fun K hK => ?_)
  refine quiet_value (.bool false) (fun W hW => ?_) (hK _ ?_)
  · clear hK
    clear hW
    go_simp
  clear hK K
  simp only [Act.put, List.setIfInBounds_toArray, List.set_cons_zero, List.set_cons_succ]
  refine BigFrame.wpQuiet_want (by rfl) (fun K hK => ?_)
  refine quiet_value ((.iface 71 (.int .i64 13))) (fun W hW => ?_) (hK _ ?_)
  · clear hK
    clear hW
    go_simp
  clear hK K
  simp only [Act.put, List.setIfInBounds_toArray, List.set_cons_zero, List.set_cons_succ]
  refine BigFrame.wpQuiet_want (by rfl) (fun K hK => ?_)
  refine quiet_value (.bool false) (fun W hW => ?_) (hK _ ?_)
  · clear hK
    clear hW
    go_simp
  clear hK K
  simp only [Act.put, List.setIfInBounds_toArray, List.set_cons_zero, List.set_cons_succ]
  refine BigFrame.wpQuiet_want (by rfl) (fun K hK => ?_)
  refine quiet_value (.pointer (some ⟨g, 0, none⟩)) (fun W hW => ?_) (hK _ ?_)
  · clear hK
    clear hW
    go_simp
  clear hK K
  simp only [Act.put, List.setIfInBounds_toArray, List.set_cons_zero, List.set_cons_succ]
  refine BigFrame.wpQuiet_want (by rfl) (fun K hK => ?_)
  refine quiet_value (.int .i64 o.code) (fun W hW => ?_) (hK _ ?_)
  · clear hK
    have q0 := hW.cell k0
    clear hW
    go_simp
  clear hK K
  simp only [Act.put, List.setIfInBounds_toArray, List.set_cons_zero, List.set_cons_succ]
  refine BigFrame.wpQuiet_want (by rfl) (fun K hK => ?_)
  refine quiet_value (.bool false) (fun W hW => ?_) (hK _ ?_)
  · clear hK
    clear hW
    go_simp
  clear hK K
  simp only [Act.put, List.setIfInBounds_toArray, List.set_cons_zero, List.set_cons_succ]
  refine BigFrame.wpQuiet_want (by rfl) (fun K hK => ?_)
  refine quiet_value (.bool false) (fun W hW => ?_) (hK _ ?_)
  · clear hK
    clear hW
    go_simp
  clear hK K
  simp only [Act.put, List.setIfInBounds_toArray, List.set_cons_zero, List.set_cons_succ]
  refine BigFrame.wpQuiet_skip (by rfl) ?_
  simp only [Act.put, List.setIfInBounds_toArray, List.set_cons_zero, List.set_cons_succ]
  refine BigFrame.wpQuiet_skip (by rfl) ?_
  simp only [Act.put, List.setIfInBounds_toArray, List.set_cons_zero, List.set_cons_succ]
  refine BigFrame.wpQuiet_skip (by rfl) ?_
  simp only [Act.put, List.setIfInBounds_toArray, List.set_cons_zero, List.set_cons_succ]
  refine BigFrame.wpQuiet_want (by rfl) (fun K hK => ?_)
  refine quiet_value (.bool false) (fun W hW => ?_) (hK _ ?_)
  · clear hK
    clear hW
    go_simp
  clear hK K
  simp only [Act.put, List.setIfInBounds_toArray, List.set_cons_zero, List.set_cons_succ]
  refine BigFrame.wpQuiet_want (by rfl) (fun K hK => ?_)
  refine quiet_value (.bool false) (fun W hW => ?_) (hK _ ?_)
  · clear hK
    clear hW
    go_simp
  clear hK K
  simp only [Act.put, List.setIfInBounds_toArray, List.set_cons_zero, List.set_cons_succ]
  refine BigFrame.wpQuiet_want (by rfl) (fun K hK => ?_)
  refine quiet_value (.bool false) (fun W hW => ?_) (hK _ ?_)
  · clear hK
    clear hW
    go_simp
  clear hK K
  simp only [Act.put, List.setIfInBounds_toArray, List.set_cons_zero, List.set_cons_succ]
  refine wpQuiet_nil ?_
  intro wc hiwc
  have hb2 : Below w1.heap.size w1 wc := hiwc
  replace b1 := b1.up hb2
  replace b2 := b2.up hb2
  replace hoL := hoL.up hb2
  replace hoP := hoP.up hb2
  replace hpL := hpL.up hb2
  replace hpP := hpP.up hb2
  replace hr := hr.up hb2
  replace B := B.trans (hb2.mono B.size)
  clear hb2 k0
  have hcut := B
  clear hoL hoP hpL hpP hr b1 b2 B hol hop hpl hpp
  have hr1 := hr0.up hcut
  have hrl2 : raw.length ≤ 17592186044416 := by omega
  go_wp2_with (fail)
  refine (decode_calls rA rc raw wc hr1 hrc hrl2).mono ?_
  rintro e w3 ⟨L, P, he, hL, hP, hb3⟩
  obtain ⟨LA, lc, rfl⟩ := own_slice_n hL
  obtain ⟨PA, pc, rfl⟩ := own_slice_n hP
  simp only [OpM.cs, opCs] at he
  subst he
  have B3 : Below w.heap.size w w3 := hcut.trans (hb3.mono hcut.size)
  have hr3 := hr1.up hb3
  have hLr := Reads.of_own hL
  have hPr := Reads.of_own hP
  obtain ⟨hn5, hn2⟩ := dec_len raw
  rcases dec_err raw with hz | hz
  · obtain ⟨he1, he2, he3⟩ := enc_dec raw hz
    rw [hz, errV_zero]
    generalize hx : (decodeG raw).1 = x at hL hP hLr hPr hn5 hn2 he1 he2 he3
    clear hx hz hL hP hr1 hb3
    obtain ⟨xc, xa, xb, xq, xn, xi, xls, xks⟩ := x
    dsimp only at hLr hPr hn5 hn2 he1 he2 he3 ⊢
    have he1' : encL ⟨xc, xa, xb, xq, xn, xi, xls, xks⟩ = raw := he1
    clear he1
    go_wp2_with (fail)
    refine (encode_calls ⟨xc, xa, xb, xq, xn, xi, xls, xks⟩ LA PA lc pc _ (hLr.up (here_alloc _ _)) (hPr.up (here_alloc _ _)) (by dsimp only; omega) (by dsimp only; omega)).mono ?_
    rintro e w4 he4
    unfold EncPost at he4
    rw [if_pos ⟨he2, he3⟩] at he4
    obtain ⟨A4, rfl, hcr4, hb4⟩ := he4
    rw [he1'] at hcr4 ⊢
    have hm := clip_reads hcr4
    have hr4 := (hr3.up (here_alloc _ _)).up hb4
    go_wp2_with (first | (go_at_call 18; refine (sameLongs_calls raw raw _ _ _ _ _ hm hr4 hrl2).mono ?_; rintro e w5 ⟨rfl, hb5⟩))
    go_ret
    exact ⟨by first | rfl | (rw [decide_eq_true rfl]; rfl), (B3.trans (((here_alloc _ _).trans (hb4.mono (by simp))).mono B3.size)).trans (hb5.mono (by have := B3.size; have := hb4.size; simp at this; omega))⟩
  · rw [errV_pos hz]
    go_wp2_with (fail)
    go_ret
    exact ⟨rfl, B3.alloc B3.size _⟩
set_option maxRecDepth 100000 in
set_option maxHeartbeats 8000000 in
theorem back_high (o p : Op) (oL oP pL pP rA : Option Addr) (olc opc plc ppc rc : Nat) (raw : List Int) (w : World)
    (hoL : Reads w w.heap.size 5 oL o.legs.length (legsC o.legs)) (hoP : Reads w w.heap.size 2 oP o.pairs.length (keysC o.pairs)) (hpL : Reads w w.heap.size 5 pL p.legs.length (legsC p.legs)) (hpP : Reads w w.heap.size 2 pP p.pairs.length (keysC p.pairs)) (hr : Reads w w.heap.size 1 rA raw.length (intsC raw))
    (hol : o.legs.length * 40 ≤ 140737488351232) (hop : o.pairs.length * 16 ≤ 140737488351232) (hpl : p.legs.length * 40 ≤ 140737488351232) (hpp : p.pairs.length * 16 ≤ 140737488351232) (hrl : raw.length * 8 ≤ 140737488351232) (hrc : raw.length ≤ rc) (hG : HG w) (hc : 8 < o.code) :
    Calls Tryd.prog 9 #[.agg #[.int .i64 o.code, .int .i64 o.acc, .int .i64 o.ast, .int .i64 o.qty, .int .i64 o.name, .int .i64 o.id, .slice oL o.legs.length olc, .slice oP o.pairs.length opc], .agg #[.int .i64 p.code, .int .i64 p.acc, .int .i64 p.ast, .int .i64 p.qty, .int .i64 p.name, .int .i64 p.id, .slice pL p.legs.length plc, .slice pP p.pairs.length ppc], .slice rA raw.length rc] w fun e w' => e = .returned (.bool true) ∧ Below w.heap.size w w' := by
  obtain ⟨g, hg⟩ : ∃ g, w.heap.size = g := ⟨_, rfl⟩
  obtain ⟨W2, hW2⟩ : ∃ W2, (w.alloc (.cells #[.int .i64 o.code, .int .i64 o.acc, .int .i64 o.ast, .int .i64 o.qty, .int .i64 o.name, .int .i64 o.id, .slice oL o.legs.length olc, .slice oP o.pairs.length opc] 33)).alloc (.cells #[.int .i64 p.code, .int .i64 p.acc, .int .i64 p.ast, .int .i64 p.qty, .int .i64 p.name, .int .i64 p.id, .slice pL p.legs.length plc, .slice pP p.pairs.length ppc] 33) = W2 := ⟨_, rfl⟩
  have B : Below w.heap.size w W2 := hW2 ▸ ((Below.refl _ _).alloc (Nat.le_refl _) _).alloc (by simp) _
  have b1 : Blk W2 g 33 #[.int .i64 o.code, .int .i64 o.acc, .int .i64 o.ast, .int .i64 o.qty, .int .i64 o.name, .int .i64 o.id, .slice oL o.legs.length olc, .slice oP o.pairs.length opc] := by rw [← hW2, ← hg]; exact (Blk.new _ _ _).alloc _
  have b2 : Blk W2 (g + 1) 33 #[.int .i64 p.code, .int .i64 p.acc, .int .i64 p.ast, .int .i64 p.qty, .int .i64 p.name, .int .i64 p.id, .slice pL p.legs.length plc, .slice pP p.pairs.length ppc] := by rw [← hW2, ← hg]; have h := Blk.new (w.alloc (.cells #[.int .i64 o.code, .int .i64 o.acc, .int .i64 o.ast, .int .i64 o.qty, .int .i64 o.name, .int .i64 o.id, .slice oL o.legs.length olc, .slice oP o.pairs.length opc] 33)) 33 #[.int .i64 p.code, .int .i64 p.acc, .int .i64 p.ast, .int .i64 p.qty, .int .i64 p.name, .int .i64 p.id, .slice pL p.legs.length plc, .slice pP p.pairs.length ppc]; simpa using h
  have hr0 := hr
  replace hoL := hoL.up B
  replace hoP := hoP.up B
  replace hpL := hpL.up B
  replace hpP := hpP.up B
  replace hr := hr.up B
  have k0 : W2.cell? ⟨g, 0, none⟩ = some (.int .i64 o.code) := b1.cell 0
  have k1 : W2.cell? ⟨g, 1, none⟩ = some (.int .i64 o.acc) := b1.cell 1
  have k2 : W2.cell? ⟨g, 2, none⟩ = some (.int .i64 o.ast) := b1.cell 2
  have k3 : W2.cell? ⟨g, 3, none⟩ = some (.int .i64 o.qty) := b1.cell 3
  have k4 : W2.cell? ⟨g, 4, none⟩ = some (.int .i64 o.name) := b1.cell 4
  have k5 : W2.cell? ⟨g, 5, none⟩ = some (.int .i64 o.id) := b1.cell 5
  have k6 : W2.cell? ⟨g, 6, none⟩ = some (.slice oL o.legs.length olc) := b1.cell 6
  have k7 : W2.cell? ⟨g, 7, none⟩ = some (.slice oP o.pairs.length opc) := b1.cell 7
  have B1 := Lib.hid b1
  have B2 := Lib.hid b2
  clear b1 b2
  go_enter Tryd.func9, Tryd.ntmps9
  go_wp2_with (fail)
  refine (encode_calls o oL oP olc opc W2 hoL hoP hol hop).mono ?_
  rintro e w1 he
  unfold EncPost at he
  rw [if_neg (by omega)] at he
  obtain ⟨rfl, hb1⟩ := he
  rw [errV_pos (by decide : (1 : Int) ≤ 13)]
  have b1 := B1.out
  have b2 := B2.out
  clear B1 B2 hW2 k0 k1 k2 k3 k4 k5 k6 k7
  replace b1 := b1.up hb1
  replace b2 := b2.up hb1
  replace hoL := hoL.up hb1
  replace hoP := hoP.up hb1
  replace hpL := hpL.up hb1
  replace hpP := hpP.up hb1
  replace hr := hr.up hb1
  replace B := B.trans (hb1.mono B.size)
  have k0 : w1.cell? ⟨g, 0, none⟩ = some (.int .i64 o.code) := b1.cell 0
  have hc1 : (1 : Int) ≤ o.code := by omega
  have hc2 : ¬ o.code ≤ 8 := by omega
  clear hb1
  go_wp2_with (fail)
  go_region_held3 (fun w' => w'.cell? ⟨g, 0, none⟩ = some (.int .i64 o.code))
    (first | go_keep | fail)
    (first | (go_at_call 33; refine (works_calls w1.drew (hG.below B.drew)).mono ?_; rintro e wc ⟨rfl, hb2⟩; have q0 := cell_below (w := w1.drew) hb2 k0))
  replace hb2 : Below w1.heap.size w1 wc := (Below.refl _ _).drew.trans hb2
  replace b1 := b1.up hb2
  replace b2 := b2.up hb2
  replace hoL := hoL.up hb2
  replace hoP := hoP.up hb2
  replace hpL := hpL.up hb2
  replace hpP := hpP.up hb2
  replace hr := hr.up hb2
  replace B := B.trans (hb2.mono B.size)
  clear hb2 k0
  have hcut := B
  clear hoL hoP hpL hpP hr b1 b2 B hol hop hpl hpp
  have hr1 := hr0.up hcut
  have hrl2 : raw.length ≤ 17592186044416 := by omega
  go_wp2_with (fail)
  refine (decode_calls rA rc raw wc hr1 hrc hrl2).mono ?_
  rintro e w3 ⟨L, P, he, hL, hP, hb3⟩
  obtain ⟨LA, lc, rfl⟩ := own_slice_n hL
  obtain ⟨PA, pc, rfl⟩ := own_slice_n hP
  simp only [OpM.cs, opCs] at he
  subst he
  have B3 : Below w.heap.size w w3 := hcut.trans (hb3.mono hcut.size)
  have hr3 := hr1.up hb3
  have hLr := Reads.of_own hL
  have hPr := Reads.of_own hP
  obtain ⟨hn5, hn2⟩ := dec_len raw
  rcases dec_err raw with hz | hz
  · obtain ⟨he1, he2, he3⟩ := enc_dec raw hz
    rw [hz, errV_zero]
    generalize hx : (decodeG raw).1 = x at hL hP hLr hPr hn5 hn2 he1 he2 he3
    clear hx hz hL hP hr1 hb3
    obtain ⟨xc, xa, xb, xq, xn, xi, xls, xks⟩ := x
    dsimp only at hLr hPr hn5 hn2 he1 he2 he3 ⊢
    have he1' : encL ⟨xc, xa, xb, xq, xn, xi, xls, xks⟩ = raw := he1
    clear he1
    go_wp2_with (fail)
    refine (encode_calls ⟨xc, xa, xb, xq, xn, xi, xls, xks⟩ LA PA lc pc _ (hLr.up (here_alloc _ _)) (hPr.up (here_alloc _ _)) (by dsimp only; omega) (by dsimp only; omega)).mono ?_
    rintro e w4 he4
    unfold EncPost at he4
    rw [if_pos ⟨he2, he3⟩] at he4
    obtain ⟨A4, rfl, hcr4, hb4⟩ := he4
    rw [he1'] at hcr4 ⊢
    have hm := clip_reads hcr4
    have hr4 := (hr3.up (here_alloc _ _)).up hb4
    go_wp2_with (first | (go_at_call 18; refine (sameLongs_calls raw raw _ _ _ _ _ hm hr4 hrl2).mono ?_; rintro e w5 ⟨rfl, hb5⟩))
    go_ret
    exact ⟨by first | rfl | (rw [decide_eq_true rfl]; rfl), (B3.trans (((here_alloc _ _).trans (hb4.mono (by simp))).mono B3.size)).trans (hb5.mono (by have := B3.size; have := hb4.size; simp at this; omega))⟩
  · rw [errV_pos hz]
    go_wp2_with (fail)
    go_ret
    exact ⟨rfl, B3.alloc B3.size _⟩
theorem lawBack_calls (o p : Op) (oL oP pL pP rA : Option Addr) (olc opc plc ppc rc : Nat) (raw : List Int) (w : World)
    (hoL : Reads w w.heap.size 5 oL o.legs.length (legsC o.legs)) (hoP : Reads w w.heap.size 2 oP o.pairs.length (keysC o.pairs)) (hpL : Reads w w.heap.size 5 pL p.legs.length (legsC p.legs)) (hpP : Reads w w.heap.size 2 pP p.pairs.length (keysC p.pairs)) (hr : Reads w w.heap.size 1 rA raw.length (intsC raw))
    (hol : o.legs.length * 40 ≤ 140737488351232) (hop : o.pairs.length * 16 ≤ 140737488351232) (hpl : p.legs.length * 40 ≤ 140737488351232) (hpp : p.pairs.length * 16 ≤ 140737488351232) (hrl : raw.length * 8 ≤ 140737488351232) (hrc : raw.length ≤ rc) (hG : HG w) :
    Calls Tryd.prog 9 #[.agg #[.int .i64 o.code, .int .i64 o.acc, .int .i64 o.ast, .int .i64 o.qty, .int .i64 o.name, .int .i64 o.id, .slice oL o.legs.length olc, .slice oP o.pairs.length opc], .agg #[.int .i64 p.code, .int .i64 p.acc, .int .i64 p.ast, .int .i64 p.qty, .int .i64 p.name, .int .i64 p.id, .slice pL p.legs.length plc, .slice pP p.pairs.length ppc], .slice rA raw.length rc] w fun e w' => e = .returned (.bool true) ∧ Below w.heap.size w w' := by
  by_cases h1 : o.code < 1
  · exact back_low o p oL oP pL pP rA olc opc plc ppc rc raw w hoL hoP hpL hpP hr hol hop hpl hpp hrl hrc hG h1
  by_cases h8 : 8 < o.code
  · exact back_high o p oL oP pL pP rA olc opc plc ppc rc raw w hoL hoP hpL hpP hr hol hop hpl hpp hrl hrc hG h8
  · exact back_good o p oL oP pL pP rA olc opc plc ppc rc raw w hoL hoP hpL hpP hr hol hop hpl hpp hrl hrc hG ⟨by omega, by omega⟩
end Go.Proofs.YtmdkcggmnejkoaaDoor
