/- balance.mark where something is marked, by a contract (printed by gen_mark14.py out of XClone14's mark0_calls). -/
import Derived.Test.YtcgcgekefhhjhaaDoorInsert14
namespace Go.Proofs.YtcgcgekefhhjhaaDoor
set_option linter.unusedSimpArgs false
set_option linter.unusedVariables false
open Go.RowKit

theorem isAt_true {l : List Mk} {n : Int} {i : Nat} (h : isAt l n i = true) : (l[i]?).map (·.m) = some n := by simpa [isAt] using h
theorem isAt_false {l : List Mk} {n : Int} {i : Nat} (h : isAt l n i = false) : ¬ (l[i]?).map (·.m) = some n := by simpa [isAt] using h
theorem setQ_ins {a : Int} {l : List Mk} {n m : Int} {i : Nat} (hr : Right a l) (h : PlaceOf l n i) (hf : isAt l n i = false) (hm : m ≠ 0) : setQ l n m = l.take i ++ ⟨n, m⟩ :: l.drop i := by
  obtain ⟨h1, h2⟩ := h.all hr
  unfold setQ
  rw [filter_take n h.le h1 h2, filter_drop n hr.up h.le h1 h2, if_neg hm, if_neg (isAt_false hf)]
  rfl
theorem setQ_del {a : Int} {l : List Mk} {n : Int} {i : Nat} (hr : Right a l) (h : PlaceOf l n i) (hf : isAt l n i = true) : setQ l n 0 = l.take i ++ l.drop (i + 1) := by
  obtain ⟨h1, h2⟩ := h.all hr
  unfold setQ
  rw [filter_take n h.le h1 h2, filter_drop n hr.up h.le h1 h2, if_pos rfl, if_pos (isAt_true hf)]
  rfl
theorem setQ_upd {a : Int} {l : List Mk} {n m : Int} {i : Nat} (hr : Right a l) (h : PlaceOf l n i) (hf : isAt l n i = true) (hm : m ≠ 0) : setQ l n m = l.take i ++ ⟨n, m⟩ :: l.drop (i + 1) := by
  obtain ⟨h1, h2⟩ := h.all hr
  unfold setQ
  rw [filter_take n h.le h1 h2, filter_drop n hr.up h.le h1 h2, if_neg hm, if_pos (isAt_true hf)]
  rfl

theorem OwnM.upd {w : World} {B g c : Nat} {l : List Mk} {i : Nat} (h : OwnM w B (.slice (some ⟨g, 0, none⟩) l.length c) l) (hi : i < l.length) (q : Int) : OwnM (w.setCell ⟨g, i * 2 + 1, none⟩ (.int .i64 q)) B (.slice (some ⟨g, 0, none⟩) l.length c) (l.take i ++ ⟨l[i].m, q⟩ :: l.drop (i + 1)) := by
  obtain ⟨g', cap, cur, hv, hBg, hg, hnc, hcm, hcs, htk⟩ := own_row h (by omega)
  injection hv with hv1 hv2 hv3
  injection hv1 with hv1
  injection hv1 with hv1 _ _
  subst hv1 hv3
  have hll : (l.take i ++ ⟨l[i].m, q⟩ :: l.drop (i + 1)).length = l.length := by simp; omega
  refine ⟨by rw [marksC_len], .inr ⟨g, c, cur.setIfInBounds (i * 2 + 1) (.int .i64 q), by rw [hll], hBg, hg.set_ _ _, by rw [hll]; exact hnc, hcm, by simpa using hcs, ?_⟩⟩
  rw [hll, Array.toList_setIfInBounds, List.take_set, htk]
  have e : l = l.take i ++ l[i] :: l.drop (i + 1) := by rw [← List.drop_eq_getElem_cons hi, List.take_append_drop]
  have e2 : marksC l = marksC (l.take i) ++ (l[i].cs ++ marksC (l.drop (i + 1))) := by
    rw [← marksC_cons, ← marksC_append, ← e]
  have ht : (marksC (l.take i)).length = i * 2 := by rw [marksC_len, List.length_take]; omega
  rw [e2, marksC_append, marksC_cons, List.set_append_right _ _ (by omega)]
  congr 1
  rw [ht]
  have : i * 2 + 1 - i * 2 = 1 := by omega
  rw [this]
  rfl

set_option maxRecDepth 100000 in
set_option maxHeartbeats 4000000 in
theorem mark_calls (a : Int) (l : List Mk) (A : Option Addr) (c B : Nat) (free n m : Int) (w : World) (h : PosOK w B a l A) (hB : B ≤ w.heap.size) (ha : -9223372036854775808 ≤ a + free ∧ a + free ≤ 9223372036854775807) (hrt : Right a l) (hm : m ≠ 0) (hg0 : -9223372036854775808 ≤ getQ l n + m) (hg1 : getQ l n + m ≤ 9223372036854775807) :
    Calls Tryd.prog 45 #[.agg #[.int .i64 a, .slice A l.length c], .int .i64 free, .int .i64 n, .int .i64 m] w
      fun e w' => ∃ v, e = .returned (.agg #[.int .i64 (a + free), v]) ∧ OwnM w' w.heap.size v (setQ l n (getQ l n + m)) ∧ Below w.heap.size w w' := by
  have h0 := Lib.hid h
  have HRT := Lib.hid hrt
  have HGQ := Lib.hid (And.intro hg0 hg1)
  clear hrt hg0 hg1
  have HB0 := Lib.hid hB
  obtain ⟨gp, hgp⟩ : ∃ g, w.heap.size = g := ⟨_, rfl⟩
  obtain ⟨W1, hW1⟩ : ∃ W, w.alloc (.cells #[.int .i64 a, .slice A l.length c] 24) = W := ⟨_, rfl⟩
  obtain ⟨W2, hW2⟩ : ∃ W, W1.alloc (.cells #[.int .i64 0, .slice none 0 0] 24) = W := ⟨_, rfl⟩
  obtain ⟨gr, hgr⟩ : ∃ g, W1.heap.size = g := ⟨_, rfl⟩
  have hb1 : Below w.heap.size w W1 := hW1 ▸ (Below.refl _ _).alloc (Nat.le_refl _) _
  have hb2 : Below w.heap.size w W2 := hW2 ▸ hb1.alloc hb1.size _
  have hp : Blk W2 gp 24 #[.int .i64 a, .slice A l.length c] := by rw [← hW2, ← hW1]; exact (blkNew hgp).alloc _
  have hr : Blk W2 gr 24 #[.int .i64 0, .slice none 0 0] := by rw [← hW2]; exact blkNew hgr
  have hgr2 : gr = gp + 1 := by rw [← hgr, ← hW1]; simp [hgp]
  have H := Lib.hid (h.below (hb2.mono hB))
  have HBB := Lib.hid (Nat.le_trans hB hb2.size)
  have HB2 := Lib.hid hb2
  have HP := Lib.hid hp
  have HR := Lib.hid hr
  have HGR := Lib.hid hgr2
  have hwr : IntKind.i64.wrap (a + free) = a + free := IntWalk.i64_in _ ha
  have p0 : W2.cell? ⟨gp, 0, none⟩ = some (.int .i64 a) := hp.cell 0
  have p1 : W2.cell? ⟨gp, 1, none⟩ = some (.slice A l.length c) := hp.cell 1
  have HA := Lib.hid ha
  clear h hb1 hb2 hp hr hB ha hgr2
  go_enter Tryd.func45, Tryd.ntmps45
  go_upto_region 1 with fail
  go_cut [9] from 12 to 19 (fun t9 wd => ∃ g9 v, t9 = .pointer (some ⟨g9, 0, none⟩) ∧ OutP wd w.heap.size g9 (a + free) v l ∧ Blk wd gp 24 #[.int .i64 a, .slice A l.length c] ∧ Blk wd gr 24 #[.int .i64 0, .slice none 0 0] ∧ gr < g9 ∧ Below w.heap.size w wd)
  case first =>
    obtain ⟨g9, hg9⟩ : ∃ g, W2.heap.size = g := ⟨_, rfl⟩
    obtain ⟨W3, hW3⟩ : ∃ W, (W2.alloc (.cells #[.int .i64 0, .slice none 0 0] 24)).drew = W := ⟨_, rfl⟩
    have hb3 : Below W2.heap.size W2 W3 := hW3 ▸ ((Below.refl _ _).alloc (Nat.le_refl _) _).drew
    have h93 : Blk W3 g9 24 #[.int .i64 0, .slice none 0 0] := by rw [← hW3]; exact (blkNew hg9).drew
    have hr9 : gr < g9 := hg9 ▸ HR.out.lt
    have HR9 := Lib.hid hr9
    have HPG : Hid (gp < g9) := Lib.hid (hg9 ▸ HP.out.lt)
    have H3 := Lib.hid (H.out.below (hb3.mono HBB.out))
    have HBB3 := Lib.hid (Nat.le_trans HBB.out hb3.size)
    have HB3 := Lib.hid (HB2.out.trans (hb3.mono HB2.out.size))
    have HP3 := Lib.hid (HP.out.below hb3 HP.out.lt)
    have HR3 := Lib.hid (HR.out.below hb3 HR.out.lt)
    have H93 := Lib.hid h93
    have HW3 := Lib.hid hW3
    clear hb3 h93 hr9 hW3
    obtain ⟨WD, hWD⟩ : ∃ W, W2.drew = W := ⟨_, rfl⟩
    have hbd : Below W2.heap.size W2 WD := hWD ▸ (Below.refl _ _).drew
    have HD := Lib.hid (H.out.below (hbd.mono HBB.out))
    have HBBD := Lib.hid (Nat.le_trans HBB.out hbd.size)
    have HBD := Lib.hid (HB2.out.trans (hbd.mono HB2.out.size))
    have HPD := Lib.hid (HP.out.below hbd HP.out.lt)
    have HRD := Lib.hid (HR.out.below hbd HR.out.lt)
    have HWD := Lib.hid hWD
    clear hbd hWD
    go_region_held3 (fun w' => w'.cell? ⟨gp, 0, none⟩ = some (.int .i64 a) ∧ w'.cell? ⟨gp, 1, none⟩ = some (.slice A l.length c)) (first | go_keep | fail)
      (first
        | (go_at_call 63; rw [HW3.out]; refine (clone_calls l A c B W3 H3.out.r HBB3.out H3.out.len).mono ?_; rintro e w3 ⟨v3, rfl, hm3, hb3⟩; obtain ⟨A3, c3, rfl⟩ := own_slice hm3; have HM3 := Lib.hid hm3; have HBW3 := Lib.hid hb3; have hp3 := HP3.out.below hb3 HP3.out.lt; have h93 := H93.out.below hb3 H93.out.lt; have q0 : w3.cell? ⟨gp, 0, none⟩ = some (.int .i64 a) := hp3.cell 0; have q1 : w3.cell? ⟨gp, 1, none⟩ = some (.slice A l.length c) := hp3.cell 1; have n0 : w3.cell? ⟨g9, 0, none⟩ = some (.int .i64 0) := h93.cell 0; have n1 : w3.cell? ⟨g9, 1, none⟩ = some (.slice none 0 0) := h93.cell 1; have z0 : w3.frozen? ⟨g9, 0, none⟩ = false := h93.frozen 0; have z1 : w3.frozen? ⟨g9, 1, none⟩ = false := h93.frozen 1; have hne : gp ≠ g9 := Nat.ne_of_lt HPG.out; have hne2 : g9 ≠ gp := Ne.symm hne; clear hm3 hb3 hp3 h93)
        | (go_at_call 63; rw [HWD.out]; refine (clone_calls l A c B WD HD.out.r HBBD.out HD.out.len).mono ?_; rintro e w4 ⟨v3, rfl, hm4, hb4⟩; obtain ⟨A3, c3, rfl⟩ := own_slice hm4; have HM4 := Lib.hid hm4; have HBW4 := Lib.hid hb4; have hp4 := HPD.out.below hb4 HPD.out.lt; have q0 : w4.cell? ⟨gp, 0, none⟩ = some (.int .i64 a) := hp4.cell 0; have q1 : w4.cell? ⟨gp, 1, none⟩ = some (.slice A l.length c) := hp4.cell 1; have hne : gp ≠ w4.heap.size := Nat.ne_of_lt hp4.lt; have hne2 : w4.heap.size ≠ gp := Ne.symm hne; clear hm4 hb4 hp4))
    · go_wp2
      go_meet
      case rel => exact ⟨_, _, rfl, ⟨blkNew rfl, (HM4.out.base HBD.out.size).alloc _, Nat.le_trans HBD.out.size HBW4.out.size⟩, (HPD.out.below HBW4.out HPD.out.lt).alloc _, (HRD.out.below HBW4.out HRD.out.lt).alloc _, Nat.lt_of_lt_of_le HRD.out.lt HBW4.out.size, (HBD.out.trans (HBW4.out.mono HBD.out.size)).alloc (Nat.le_trans HBD.out.size HBW4.out.size) _⟩
    · go_wp2
      go_meet
      case rel =>
        have hb9 := H93.out.below HBW3.out H93.out.lt
        have hne3 : gr ≠ g9 := Nat.ne_of_lt HR9.out
        refine ⟨_, _, rfl, ⟨(hb9.set_ 0 (.int .i64 (a + free))).set_ 1 (.slice A3 l.length c3), ?_, ?_⟩, ((HP3.out.below HBW3.out HP3.out.lt).far (p := ⟨g9, 0, none⟩) hne _).far (p := ⟨g9, 1, none⟩) hne _, ((HR3.out.below HBW3.out HR3.out.lt).far (p := ⟨g9, 0, none⟩) hne3 _).far (p := ⟨g9, 1, none⟩) hne3 _, HR9.out, ?_⟩
        · exact ((HM3.out.base HB3.out.size).far hb9 _ _).far (hb9.set_ 0 _) _ _
        · have := HB2.out.size; have := HPG.out; omega
        · have hge : w.heap.size ≤ g9 := by have := HPG.out; omega
          exact ((HB3.out.trans (HBW3.out.mono HB3.out.size)).setCell (p := ⟨g9, 0, none⟩) hge _).setCell (p := ⟨g9, 1, none⟩) hge _
  case rest =>
    obtain ⟨g9, v, rfl, hO, hp, hr, hrg, hB⟩ := hcut
    obtain ⟨A9, c9, rfl⟩ := own_slice hO.m
    have HO := Lib.hid hO
    have HPW := Lib.hid hp
    have HRW := Lib.hid hr
    have HRG := Lib.hid hrg
    have HBW := Lib.hid hB
    have HWR := Lib.hid (H.out.r)
    have hle2 := HB2.out.size
    have q0 : wc.cell? ⟨gp, 0, none⟩ = some (.int .i64 a) := hp.cell 0
    have q1 : wc.cell? ⟨gp, 1, none⟩ = some (.slice A l.length c) := hp.cell 1
    have HPK := Lib.hid (h0.out.below (hB.mono HB0.out))
    clear hO hp hr hrg hB p0 p1 hle2 hwr h0
    go_wp2_with (fail)
    refine (find_calls a l A c B n wc HPK.out.r (Nat.le_trans HB0.out HBW.out.size) (by have := HPK.out.len; omega)).mono ?_
    rintro e w5 ⟨hb5, i, hpl, rfl⟩
    have HO5 := Lib.hid (HO.out.below hb5)
    have HR5 := Lib.hid (HRW.out.below hb5 HRW.out.lt)
    have HB5 := Lib.hid (HBW.out.trans (hb5.mono HBW.out.size))
    have HLEN := Lib.hid (show l.length ≤ 1000000000 by have := HRT.out.len; omega)
    have HQB := Lib.hid HPK.out.q1
    have n0 : w5.cell? ⟨g9, 0, none⟩ = some (.int .i64 (a + free)) := HO5.out.b.cell 0
    have n1 : w5.cell? ⟨g9, 1, none⟩ = some (.slice A9 l.length c9) := HO5.out.b.cell 1
    have y1 : w5.frozen? ⟨g9, 1, none⟩ = false := HO5.out.b.frozen 1
    have m0 : w5.cell? ⟨gr, 0, none⟩ = some (.int .i64 0) := HR5.out.cell 0
    have m1 : w5.cell? ⟨gr, 1, none⟩ = some (.slice none 0 0) := HR5.out.cell 1
    have z0 : w5.frozen? ⟨gr, 0, none⟩ = false := HR5.out.frozen 0
    have z1 : w5.frozen? ⟨gr, 1, none⟩ = false := HR5.out.frozen 1
    obtain ⟨f1, f2⟩ := place_found HRT.out hpl
    have F1 := Lib.hid f1
    have F2 := Lib.hid f2
    have HPL := Lib.hid hpl
    clear hb5 q0 q1 hpl f1 f2
    have hge : w.heap.size ≤ gr := by have := HGR.out; omega
    have hge9 : w.heap.size ≤ g9 := by have := HRG.out; omega
    have HGE := Lib.hid hge
    have HGE9 := Lib.hid hge9
    have hne9 : g9 ≠ gr := Nat.ne_of_gt HRG.out
    have hne9' : gr ≠ g9 := Nat.ne_of_lt HRG.out
    clear hge hge9
    by_cases hi : isAt l n i = true
    · obtain ⟨hil, hq⟩ := F2.out hi
      rw [hi]
      obtain ⟨ga, cap, cur, hv, hBg, hgb, hnc, hcm, hcs, htk⟩ := own_row HO5.out.m (by omega)
      injection hv with hv1 hv2 hv3
      subst hv1 hv3
      have e1 : w5.cell? ⟨ga, i * 2 + 1, none⟩ = some (.int .i64 (getQ l n)) := by
        have hx := row_cells (w := w5) hgb htk (i * 2) 1 (.int .i64 l[i].q) (by rw [← marksC_drop, List.drop_eq_getElem_cons hil, marksC_cons]; rfl)
        rw [Addr.add_lit] at hx
        rw [hx, hq]
      have z9 : w5.frozen? ⟨ga, i * 2 + 1, none⟩ = false := hgb.frozen _
      have hil' : (i : Int) < l.length := by omega
      have hmn : l[i].m = n := by
        have := isAt_true hi
        simpa [hil] using this
      have hwq : IntKind.i64.wrap (getQ l n + m) = getQ l n + m := IntWalk.i64_in _ HGQ.out
      have HGB := Lib.hid hgb
      have HTK := Lib.hid htk
      have HI := Lib.hid hi
      have HV := Lib.hid (And.intro hv2 (And.intro hnc (And.intro hcm hcs)))
      have HMN := Lib.hid hmn
      have hnega : ga ≠ g9 := HGB.out.ne_ HO5.out.b (by decide)
      have hnegr : ga ≠ gr := HGB.out.ne_ HR5.out (by decide)
      have hnega' := hnega.symm
      have hnegr' := hnegr.symm
      obtain ⟨q, hqq⟩ : ∃ q, getQ l n = q := ⟨_, rfl⟩
      have HQ := Lib.hid hqq
      rw [hqq] at e1 hwq
      clear hi hq htk hv2 hnc hcm hcs hmn hgb hqq
      by_cases hz : q + m = 0
      · have hset : setQ l n (getQ l n + m) = l.take i ++ l.drop (i + 1) := by rw [HQ.out, hz]; exact setQ_del HRT.out HPL.out HI.out
        have HSET := Lib.hid hset
        have HZ := Lib.hid hz
        have hwz : IntKind.i64.wrap (q + m) = 0 := by rw [hwq, hz]
        clear hset hz hwq
        have hwi : IntKind.i64.wrap ((i : Int) + 1) = (i : Int) + 1 := IntWalk.i64_in _ (by have := HLEN.out; omega)
        go_wp2_with (fail)
        refine (delete_calls l (some ⟨ga, 0, none⟩) c9 i w.heap.size w5 HO5.out.m hil HLEN.out).mono ?_
        rintro e w7 ⟨v7, rfl, hm7, hg7, hat7⟩
        obtain ⟨A7, c7, rfl⟩ := own_slice hm7
        have hO7 := HO5.out.b.grown hg7 (by intro h; exact hnega (by injection h with h; exact h.symm))
        have hR7 := HR5.out.grown hg7 (by intro h; exact hnegr (by injection h with h; exact h.symm))
        have hB7 : Below w.heap.size w w7 := HB5.out.trans (below_of_grown hg7 (fun g hg => by have hg' : some ga = some g := hg; injection hg' with hg'; omega) HB5.out.size)
        obtain ⟨L, hL⟩ : ∃ L, l.take i ++ l.drop (i + 1) = L := ⟨_, rfl⟩
        rw [hL] at hm7
        have HL := Lib.hid (HSET.out.trans hL)
        rw [hL]
        have p0 : w7.cell? ⟨g9, 0, none⟩ = some (.int .i64 (a + free)) := hO7.cell 0
        have p1 : w7.cell? ⟨g9, 1, none⟩ = some (.slice (some ⟨ga, 0, none⟩) l.length c9) := hO7.cell 1
        have y7 : w7.frozen? ⟨g9, 1, none⟩ = false := hO7.frozen 1
        have r0 : w7.cell? ⟨gr, 0, none⟩ = some (.int .i64 0) := hR7.cell 0
        have r1 : w7.cell? ⟨gr, 1, none⟩ = some (.slice none 0 0) := hR7.cell 1
        have z70 : w7.frozen? ⟨gr, 0, none⟩ = false := hR7.frozen 0
        have z71 : w7.frozen? ⟨gr, 1, none⟩ = false := hR7.frozen 1
        have HM7 := Lib.hid hm7
        have HO7 := Lib.hid hO7
        have HR7 := Lib.hid hR7
        have HB7 := Lib.hid hB7
        clear n0 n1 m0 m1 z0 z1 y1 hm7 hg7 hat7 hO7 hR7 hB7 hL e1 z9
        go_wp2_with (fail)
        have hR8 := HR7.out.far (p := ⟨g9, 1, none⟩) hne9' (.slice A7 L.length c7)
        have hO8 := HM7.out.far HO7.out 1 (.slice A7 L.length c7)
        have hB8 := HB7.out.setCell (p := ⟨g9, 1, none⟩) HGE9.out (.slice A7 L.length c7)
        have hrr := (hR8.set_ 0 (.int .i64 (a + free))).set_ 1 (.slice A7 L.length c7)
        refine ⟨rfl, _, results_cell1 Tryd.results45 rfl [.int .i64 (a + free), .slice A7 L.length c7] hrr Tryd.underlying24 rfl Tryd.sizeP, _, rfl, ?_, ?_⟩
        · rw [HL.out]
          exact (hO8.far hR8 _ _).far (hR8.set_ 0 _) _ _
        · exact (hB8.setCell (p := ⟨gr, 0, none⟩) HGE.out _).setCell (p := ⟨gr, 1, none⟩) HGE.out _
      · have hset : setQ l n (getQ l n + m) = l.take i ++ ⟨n, q + m⟩ :: l.drop (i + 1) := by rw [HQ.out]; exact setQ_upd HRT.out HPL.out HI.out hz
        have HSET := Lib.hid hset
        clear hset
        have hm5 : OwnM (w5.setCell ⟨ga, i * 2 + 1, none⟩ (.int .i64 (q + m))) w.heap.size (.slice (some ⟨ga, 0, none⟩) l.length c9) (l.take i ++ ⟨n, q + m⟩ :: l.drop (i + 1)) := by
          have := OwnM.upd HO5.out.m hil (q + m)
          rw [HMN.out] at this
          exact this
        have hll : (l.take i ++ ⟨n, q + m⟩ :: l.drop (i + 1)).length = l.length := by simp; omega
        have HM5 := Lib.hid hm5
        have HLL := Lib.hid hll
        clear hm5 hll
        go_wp2_with (fail)
        have hR8 := HR5.out.far (p := ⟨ga, i * 2 + 1, none⟩) hnegr' (.int .i64 (q + m))
        have hO8 := HM5.out
        have hB8 := HB5.out.setCell (p := ⟨ga, i * 2 + 1, none⟩) hBg (.int .i64 (q + m))
        have hrr := (hR8.set_ 0 (.int .i64 (a + free))).set_ 1 (.slice (some ⟨ga, 0, none⟩) l.length c9)
        refine ⟨rfl, _, results_cell1 Tryd.results45 rfl [.int .i64 (a + free), .slice (some ⟨ga, 0, none⟩) l.length c9] hrr Tryd.underlying24 rfl Tryd.sizeP, _, rfl, ?_, ?_⟩
        · rw [HSET.out]
          have hx := (hO8.far hR8 _ _).far (hR8.set_ 0 (.int .i64 (a + free))) 1 (.slice (some ⟨ga, 0, none⟩) l.length c9)
          exact hx
        · exact (hB8.setCell (p := ⟨gr, 0, none⟩) HGE.out _).setCell (p := ⟨gr, 1, none⟩) HGE.out _
    · have hi' : isAt l n i = false := by simpa using hi
      rw [hi']
      have hset : setQ l n (getQ l n + m) = l.take i ++ ⟨n, m⟩ :: l.drop i := by rw [F1.out hi', Int.zero_add]; exact setQ_ins HRT.out HPL.out hi' hm
      have HSET := Lib.hid hset
      clear hi hi' hset
      go_wp2_with (fail)
      refine (insert_calls l A9 c9 i w.heap.size ⟨n, m⟩ w5.heap.size _ _ (HO5.out.m.alloc _) (Nat.le_trans HB5.out.size (by simp)) HPL.out.le (blkNew rfl) (by intro h; have := (World.ownsRow.lt HO5.out.m _ h).2; omega) HLEN.out).mono ?_
      rintro e w7 ⟨v7, rfl, hm7, hg7, hat7⟩
      obtain ⟨A7, c7, rfl⟩ := own_slice hm7
      have hO7 := (HO5.out.b.alloc (.cells #[.int .i64 n, .int .i64 m] 37)).grown hg7 (fun h => OnwM_ne HO5.out.m HO5.out.b (by decide) h.symm)
      have hR7 := (HR5.out.alloc (.cells #[.int .i64 n, .int .i64 m] 37)).grown hg7 (fun h => OnwM_ne HO5.out.m HR5.out (by decide) h.symm)
      have hB6 := HB5.out.alloc HB5.out.size (.cells #[.int .i64 n, .int .i64 m] 37)
      have hB7 : Below w.heap.size w w7 := hB6.trans (below_of_grown hg7 (fun g hg => (World.ownsRow.lt HO5.out.m _ hg).1) hB6.size)
      obtain ⟨L, hL⟩ : ∃ L, l.take i ++ ⟨n, m⟩ :: l.drop i = L := ⟨_, rfl⟩
      rw [hL] at hm7
      have HL := Lib.hid (HSET.out.trans hL)
      rw [hL]
      have p0 : w7.cell? ⟨g9, 0, none⟩ = some (.int .i64 (a + free)) := hO7.cell 0
      have p1 : w7.cell? ⟨g9, 1, none⟩ = some (.slice A9 l.length c9) := hO7.cell 1
      have y7 : w7.frozen? ⟨g9, 1, none⟩ = false := hO7.frozen 1
      have r0 : w7.cell? ⟨gr, 0, none⟩ = some (.int .i64 0) := hR7.cell 0
      have r1 : w7.cell? ⟨gr, 1, none⟩ = some (.slice none 0 0) := hR7.cell 1
      have z70 : w7.frozen? ⟨gr, 0, none⟩ = false := hR7.frozen 0
      have z71 : w7.frozen? ⟨gr, 1, none⟩ = false := hR7.frozen 1
      have HM7 := Lib.hid hm7
      have HO7 := Lib.hid hO7
      have HR7 := Lib.hid hR7
      have HB7 := Lib.hid hB7
      clear n0 n1 m0 m1 z0 z1 y1 hm7 hg7 hat7 hO7 hR7 hB7 hB6 hL
      go_wp2_with (fail)
      have hR8 := HR7.out.far (p := ⟨g9, 1, none⟩) hne9' (.slice A7 L.length c7)
      have hO8 := HM7.out.far HO7.out 1 (.slice A7 L.length c7)
      have hB8 := HB7.out.setCell (p := ⟨g9, 1, none⟩) HGE9.out (.slice A7 L.length c7)
      have hrr := (hR8.set_ 0 (.int .i64 (a + free))).set_ 1 (.slice A7 L.length c7)
      refine ⟨rfl, _, results_cell1 Tryd.results45 rfl [.int .i64 (a + free), .slice A7 L.length c7] hrr Tryd.underlying24 rfl Tryd.sizeP, _, rfl, ?_, ?_⟩
      · rw [HL.out]
        exact (hO8.far hR8 _ _).far (hR8.set_ 0 _) _ _
      · exact (hB8.setCell (p := ⟨gr, 0, none⟩) HGE.out _).setCell (p := ⟨gr, 1, none⟩) HGE.out _
end Go.Proofs.YtcgcgekefhhjhaaDoor
