/- StoreScript: its walk (printed by gen_scs11.py). -/
import Derived.Test.YtflkddllofeiaaaGreatDoorSc2
import Derived.Test.YtflkddllofeiaaaGreatDoorS6
import Derived.Deep.RegionHeld3
import Derived.Deep.DeepCutAuto
import Derived.Deep.CutBlock
namespace Go.Proofs.YtflkddllofeiaaaGreatDoor
open Go.RowKit Go.MapKept Go.ChangeMaps Go.Maps
set_option linter.unusedVariables false
set_option linter.unusedSimpArgs false

theorem cell_low {B : Nat} {w w' : World} {p : Addr} {v : Value} (hb : Below B w w') (hp : p.block < B) (h : w.cell? p = some v) : w'.cell? p = some v := (World.cell?_of_block (hb.block _ hp)).trans h
theorem wfI_le {n : Int} (h : wfI n) : n ≤ 9223372036854775807 := by
  unfold wfI Lit.wf at h
  simp at h
  exact h.2

set_option maxRecDepth 100000 in
set_option maxHeartbeats 16000000 in
theorem storeScript_calls (ra rb : Int) (cs : List CallV) (A0 : Option Addr) (c : Nat) (w0 : World) (hr : Reads w0 w0.heap.size 6 A0 cs.length (cs.flatMap CallV.cs)) (hq : ∀ x ∈ cs, wfI x.n) (hl : cs.length ≤ 2513169434843) (hG : HG w0) :
    Calls Tryz.prog 3 #[.int .i64 ra, .int .i64 rb, .slice A0 cs.length c] w0 fun e w' => e = .returned (.bool true) ∧ Below w0.heap.size w0 w' := by
  obtain ⟨iT, hiT, hT0, hT1, hT2⟩ := info_parts infoKeysT
  have HR := Lib.hid hr
  have HQ := Lib.hid hq
  have HGG := Lib.hid hG
  clear hr hq hG
  go_enter Tryz.func3, Tryz.ntmps3
  go_wp2_with (fail)
  refine (newS_calls ra w0).mono ?_
  rintro e w1 ⟨s0, rfl, hs0, hn0, hc0, hR0, hg0, hb1, ho0⟩
  go_wp2_with (fail)
  refine (newS_calls rb w1).mono ?_
  rintro e w2 ⟨s1, rfl, hs1, hn1, hc1, hR1, hg1, hb2, ho1⟩
  have S0 := Lib.hid (⟨hb1, hs0, ho0, hn0, hc0, hR0, hg0⟩ : Below w0.heap.size w0 w1 ∧ StAt w1 s0 ∧ (∀ i, s0.of i → w0.heap.size ≤ i) ∧ s0.n = cntS ra ∧ s0.chs = [] ∧ s0.R = [] ∧ s0.bg = 0)
  have S1 := Lib.hid (⟨hb2, hs1, ho1, hn1, hc1, hR1, hg1⟩ : Below w1.heap.size w1 w2 ∧ StAt w2 s1 ∧ (∀ i, s1.of i → w1.heap.size ≤ i) ∧ s1.n = cntS rb ∧ s1.chs = [] ∧ s1.R = [] ∧ s1.bg = 0)
  clear hb1 hs0 hn0 hc0 hR0 hg0 ho0 hb2 hs1 hn1 hc1 hR1 hg1 ho1
  go_wp2_with (fail)
  refine (rnew_calls ra _).mono ?_
  rintro e w4 ⟨q0, rfl, hr0, hb4, hq0⟩
  go_wp2_with (fail)
  refine (rnew_calls rb w4).mono ?_
  rintro e w5 ⟨q1, rfl, hr1, hb5, hq1⟩
  have hS := sc_start S0.out.1 S0.out.2.1 S0.out.2.2.1 S0.out.2.2.2.1 S0.out.2.2.2.2.1 S0.out.2.2.2.2.2.1 S0.out.2.2.2.2.2.2 S1.out.1 S1.out.2.1 S1.out.2.2.1 S1.out.2.2.2.1 S1.out.2.2.2.2.1 S1.out.2.2.2.2.2.1 S1.out.2.2.2.2.2.2 rfl hb4 hr0 hq0 hb5 hr1 hq1 rfl
  obtain ⟨aS, haS⟩ : ∃ X : Nat → StV, duo s0 s1 = X := ⟨_, rfl⟩
  obtain ⟨dS, hdS⟩ : ∃ X : Nat → RS, duo ⟨q0, cntS ra, .slice none 0 0, [], .slice none 0 0, []⟩ ⟨q1, cntS rb, .slice none 0 0, [], .slice none 0 0, []⟩ = X := ⟨_, rfl⟩
  obtain ⟨AS, hAS⟩ : ∃ X : Nat → AbS, (fun _ => ⟨[], [], 0⟩) = X := ⟨_, rfl⟩
  rw [haS, hdS, hAS] at hS
  have p0 : s0.p = (aS 0).p := by rw [← haS]; rfl
  have p1 : s1.p = (aS 1).p := by rw [← haS]; rfl
  have x0 : (w5.alloc (.cells #[.pointer (some ⟨q0, 0, none⟩), .pointer (some ⟨q1, 0, none⟩)] 28)).cell? ⟨w2.heap.size, 0, none⟩ = some (.pointer (some ⟨s0.p, 0, none⟩)) := by rw [p0]; exact hS.bx.cell 0
  have x1 : (w5.alloc (.cells #[.pointer (some ⟨q0, 0, none⟩), .pointer (some ⟨q1, 0, none⟩)] 28)).cell? ⟨w2.heap.size, 1, none⟩ = some (.pointer (some ⟨s1.p, 0, none⟩)) := by rw [p1]; exact hS.bx.cell 1
  have HS := Lib.hid hS
  clear haS hdS hAS hS hr0 hb4 hq0 hr1 hb5 hq1 S0 S1 p0 p1
  go_wp2_with (fail)
  refine (worksS_calls _ (HGG.out.below HS.out.bel)).mono ?_
  rintro e w7 ⟨rfl, hb7⟩
  have HS7 := Lib.hid (HS.out.below hb7)
  clear x0 x1 hb7
  obtain ⟨gx, hgx⟩ : ∃ q, w2.heap.size = q := ⟨_, rfl⟩
  obtain ⟨gr, hgr⟩ : ∃ q, w5.heap.size = q := ⟨_, rfl⟩
  rw [hgx, hgr] at HS7
  rw [hgx, hgr]
  clear hgx hgr HS
  go_wp2_with (fail)
  go_loopw [9, 10] (fun s9 i wr => ∃ (k : Nat) (a : Nat → StV) (d : Nat → RS) (A : Nat → AbS) (P : List KL) (tv : Value), k ≤ cs.length ∧ s9 = tv ∧ i = .int .i64 k ∧ Sc11 w0 wr k gx gr a d A tv P) (fun _ i _ => cs.length - (intOf i).toNat)
  case atStart => exact ⟨0, aS, dS, AS, [], _, Nat.zero_le _, rfl, rfl, HS7.out⟩
  case round =>
    clear HS7
    obtain ⟨k, a, d, A, P, tv, hk, rfl, rfl, hS⟩ := hrel
    by_cases hlt : k < cs.length
    · have hkl : (k : Int) < cs.length := by omega
      have hin := HQ.out cs[k] (List.getElem_mem hlt)
      obtain ⟨ad, rfl, hadb, e0, e1, e2, e3, e4, e5⟩ := call_at (HR.out.below hS.bel) hlt
      obtain ⟨x, hx⟩ : ∃ x, cs[k] = x := ⟨_, rfl⟩
      rw [hx] at e0 e1 e2 e3 e4 e5 hin
      obtain ⟨on, kd, ⟨acc, ast⟩, n, v⟩ := x
      simp only at e0 e1 e2 e3 e4 e5 hin
      have hadk : (ad.add (k * 6)).block < w0.heap.size := by unfold Addr.add; split <;> exact hadb
      have HIN := Lib.hid hin
      have HS := Lib.hid hS
      clear hS hin hx
      go_wp2_with (fail)
      refine (pick_calls on 2 wr (by omega) (by omega)).mono ?_
      rintro e w' ⟨j, rfl, hj, rfl⟩
      have hj2 : j = 0 ∨ j = 1 := by omega
      by_cases hkd : kd = 3
      · subst hkd
        rcases hj2 with rfl | rfl
        · as_aux_lemma =>
          have y0 : w'.cell? ⟨gx, 0, none⟩ = some (.pointer (some ⟨(a 0).p, 0, none⟩)) := HS.out.bx.cell 0
          go_wp2_with (fail)
          refine (HS.out.keys (by omega) (j := 0) (by decide)).mono ?_
          rintro e w3 ⟨B1, c1, rfl, hx3, hb3⟩
          have HS3 := Lib.hid (HS.out.below hb3)
          have y3 : w3.cell? ⟨gx, 0, none⟩ = some (.pointer (some ⟨(a 0).p, 0, none⟩)) := HS3.out.bx.cell 0
          clear y0
          go_wp2_with (fail)
          refine (HS3.out.keys (by omega) (j := 0) (by decide)).mono ?_
          rintro e w4 ⟨B2, c2, rfl, hx4, hb4⟩
          have HS4 := Lib.hid (HS3.out.below hb4)
          have y4 : w4.cell? ⟨gr, 0, none⟩ = some (.pointer (some ⟨(d 0).p, 0, none⟩)) := HS4.out.br.cell 0
          have HX1 := Lib.hid (own_up hx3 hb4)
          have HX1X := Lib.hid hx3
          have HX2 := Lib.hid hx4
          have HB4 := Lib.hid (below_after hb3 hb4)
          have HB34 := Lib.hid hb3.size
          clear y3 hx3 hx4 hb3 hb4
          go_wp2_with (fail)
          refine (HS4.out.keysR (by omega) (j := 0) (by decide)).mono ?_
          rintro e w5 ⟨B3, c3, rfl, hx5, hb5⟩
          have HS5 := Lib.hid (HS4.out.below hb5)
          go_wp2_with (fail)
          refine (sameK_own (ksOf A 0) B1 B3 c1 c3 w5 (own_up HX1.out hb5) hx5 (by have := HS5.out.ksN (j := 0) (by decide); omega)).mono ?_
          rintro e w6 ⟨rfl, hb6⟩
          have HS6 := Lib.hid (HS5.out.below hb6)
          have y6 : w6.cell? ⟨gr, 0, none⟩ = some (.pointer (some ⟨(d 0).p, 0, none⟩)) := HS6.out.br.cell 0
          have HB6 := Lib.hid (below_after hb5 hb6)
          clear hx5 hb5 hb6 y4
          go_wp2_with (fail)
          refine (HS6.out.keysR (by omega) (j := 0) (by decide)).mono ?_
          rintro e w7 ⟨B4, c4, rfl, hx7, hb7⟩
          have HS7 := Lib.hid (HS6.out.below hb7)
          go_wp2_with (fail)
          refine (sameK_own (ksOf A 0) B2 B4 c2 c4 w7 (own_up (own_up HX2.out HB6.out) hb7) hx7 (by have := HS7.out.ksN (j := 0) (by decide); omega)).mono ?_
          rintro e w8 ⟨rfl, hb8⟩
          have HS8 := Lib.hid (HS7.out.below hb8)
          have HB48 := Lib.hid (below_after (below_after HB6.out hb7) hb8)
          have HSZ := Lib.hid HS8.out.bel.size
          have HPL := Lib.hid HS8.out.pl
          have HB8 := Lib.hid (below_after HB4.out HB48.out)
          have HR1 := Lib.hid (row_weak (own_up HX1.out HB48.out) (Nat.le_refl _))
          have HR2 := Lib.hid (row_weak (own_up HX2.out HB48.out) HB34.out)
          have HSP := Lib.hid (sep_two (x := ⟨B1, (ksOf A 0), c1⟩) (y := ⟨B2, (ksOf A 0), c2⟩) (fun i hi => own_lt HX1X.out hi) (fun i hi => own_base HX2.out hi))
          obtain ⟨TA, tc, rfl⟩ := own_slice HS8.out.row
          clear y6 hx7 hb7 hb8
          go_wp2_with (at_builtin; refine wpList_append_wide_at _ rfl (.tmp 96) (.tmp 99) 30 rfl w0.heap.size 40 iT _ 1 24 Tryz.underlying30 hiT hT0 hT1 hT2 rfl (by decide) _ P.length (P.flatMap KL.cs) rfl (HS8.out.row.alloc _) ⟨w8.heap.size, 0, none⟩ 2 2 [.slice B1 (ksOf A 0).length c1, .slice B2 (ksOf A 0).length c2] rfl rfl ?_ ?_ ?_ ?_ ?_ ?_; exact new_cells w8 40 [.slice B1 (ksOf A 0).length c1, .slice B2 (ksOf A 0).length c2]; (simp [Value.oneCell']); (unfold maxLen; have := HPL.out; omega); (have := HPL.out; omega); (have := HSZ.out; simp; omega); intro v9 w9 hown hg _ hat; have hT := HS.out.push (m := k + 1) [⟨B1, (ksOf A 0), c1⟩, ⟨B2, (ksOf A 0), c2⟩] HB8.out (two_rows HR1.out HR2.out) HSP.out hown hg hat (Nat.le_succ _) (by have := HPL.out; simp; omega) (two_lens (Nat.le_succ_of_le (HS.out.ksN (j := 0) (by decide))) (Nat.le_succ_of_le (HS.out.ksN (j := 0) (by decide)))); have HT := Lib.hid hT; clear hown hg hat hT)
          go_roundw
          case rel => exact ⟨k + 1, a, d, A, _, _, by omega, rfl, by go_num, HT.out⟩
          case measure => simp [intOf]; omega
        · as_aux_lemma =>
          have y0 : w'.cell? ⟨gx, 1, none⟩ = some (.pointer (some ⟨(a 1).p, 0, none⟩)) := HS.out.bx.cell 1
          go_wp2_with (fail)
          refine (HS.out.keys (by omega) (j := 1) (by decide)).mono ?_
          rintro e w3 ⟨B1, c1, rfl, hx3, hb3⟩
          have HS3 := Lib.hid (HS.out.below hb3)
          have y3 : w3.cell? ⟨gx, 1, none⟩ = some (.pointer (some ⟨(a 1).p, 0, none⟩)) := HS3.out.bx.cell 1
          clear y0
          go_wp2_with (fail)
          refine (HS3.out.keys (by omega) (j := 1) (by decide)).mono ?_
          rintro e w4 ⟨B2, c2, rfl, hx4, hb4⟩
          have HS4 := Lib.hid (HS3.out.below hb4)
          have y4 : w4.cell? ⟨gr, 1, none⟩ = some (.pointer (some ⟨(d 1).p, 0, none⟩)) := HS4.out.br.cell 1
          have HX1 := Lib.hid (own_up hx3 hb4)
          have HX1X := Lib.hid hx3
          have HX2 := Lib.hid hx4
          have HB4 := Lib.hid (below_after hb3 hb4)
          have HB34 := Lib.hid hb3.size
          clear y3 hx3 hx4 hb3 hb4
          go_wp2_with (fail)
          refine (HS4.out.keysR (by omega) (j := 1) (by decide)).mono ?_
          rintro e w5 ⟨B3, c3, rfl, hx5, hb5⟩
          have HS5 := Lib.hid (HS4.out.below hb5)
          go_wp2_with (fail)
          refine (sameK_own (ksOf A 1) B1 B3 c1 c3 w5 (own_up HX1.out hb5) hx5 (by have := HS5.out.ksN (j := 1) (by decide); omega)).mono ?_
          rintro e w6 ⟨rfl, hb6⟩
          have HS6 := Lib.hid (HS5.out.below hb6)
          have y6 : w6.cell? ⟨gr, 1, none⟩ = some (.pointer (some ⟨(d 1).p, 0, none⟩)) := HS6.out.br.cell 1
          have HB6 := Lib.hid (below_after hb5 hb6)
          clear hx5 hb5 hb6 y4
          go_wp2_with (fail)
          refine (HS6.out.keysR (by omega) (j := 1) (by decide)).mono ?_
          rintro e w7 ⟨B4, c4, rfl, hx7, hb7⟩
          have HS7 := Lib.hid (HS6.out.below hb7)
          go_wp2_with (fail)
          refine (sameK_own (ksOf A 1) B2 B4 c2 c4 w7 (own_up (own_up HX2.out HB6.out) hb7) hx7 (by have := HS7.out.ksN (j := 1) (by decide); omega)).mono ?_
          rintro e w8 ⟨rfl, hb8⟩
          have HS8 := Lib.hid (HS7.out.below hb8)
          have HB48 := Lib.hid (below_after (below_after HB6.out hb7) hb8)
          have HSZ := Lib.hid HS8.out.bel.size
          have HPL := Lib.hid HS8.out.pl
          have HB8 := Lib.hid (below_after HB4.out HB48.out)
          have HR1 := Lib.hid (row_weak (own_up HX1.out HB48.out) (Nat.le_refl _))
          have HR2 := Lib.hid (row_weak (own_up HX2.out HB48.out) HB34.out)
          have HSP := Lib.hid (sep_two (x := ⟨B1, (ksOf A 1), c1⟩) (y := ⟨B2, (ksOf A 1), c2⟩) (fun i hi => own_lt HX1X.out hi) (fun i hi => own_base HX2.out hi))
          obtain ⟨TA, tc, rfl⟩ := own_slice HS8.out.row
          clear y6 hx7 hb7 hb8
          go_wp2_with (at_builtin; refine wpList_append_wide_at _ rfl (.tmp 96) (.tmp 99) 30 rfl w0.heap.size 40 iT _ 1 24 Tryz.underlying30 hiT hT0 hT1 hT2 rfl (by decide) _ P.length (P.flatMap KL.cs) rfl (HS8.out.row.alloc _) ⟨w8.heap.size, 0, none⟩ 2 2 [.slice B1 (ksOf A 1).length c1, .slice B2 (ksOf A 1).length c2] rfl rfl ?_ ?_ ?_ ?_ ?_ ?_; exact new_cells w8 40 [.slice B1 (ksOf A 1).length c1, .slice B2 (ksOf A 1).length c2]; (simp [Value.oneCell']); (unfold maxLen; have := HPL.out; omega); (have := HPL.out; omega); (have := HSZ.out; simp; omega); intro v9 w9 hown hg _ hat; have hT := HS.out.push (m := k + 1) [⟨B1, (ksOf A 1), c1⟩, ⟨B2, (ksOf A 1), c2⟩] HB8.out (two_rows HR1.out HR2.out) HSP.out hown hg hat (Nat.le_succ _) (by have := HPL.out; simp; omega) (two_lens (Nat.le_succ_of_le (HS.out.ksN (j := 1) (by decide))) (Nat.le_succ_of_le (HS.out.ksN (j := 1) (by decide)))); have HT := Lib.hid hT; clear hown hg hat hT)
          go_roundw
          case rel => exact ⟨k + 1, a, d, A, _, _, by omega, rfl, by go_num, HT.out⟩
          case measure => simp [intOf]; omega
      · have hk3 : (kd == 3) = false := by simpa using hkd
        rcases hj2 with rfl | rfl
        · as_aux_lemma =>
          obtain ⟨sd, hsd⟩ : ∃ sd, ansA (A 0) (a 0).n ⟨on, kd, ⟨acc, ast⟩, n, v⟩ = sd := ⟨_, rfl⟩
          obtain ⟨av, an, aok⟩ := sd
          have HSD := Lib.hid hsd
          clear hsd
          go_upto_region 11 with fail
          have y0 : w'.cell? ⟨gx, 0, none⟩ = some (.pointer (some ⟨(a 0).p, 0, none⟩)) := HS.out.bx.cell 0
          have y1 : w'.cell? ⟨gr, 0, none⟩ = some (.pointer (some ⟨(d 0).p, 0, none⟩)) := HS.out.br.cell 0
          obtain ⟨WD, hWD⟩ : ∃ X, w'.drew = X := ⟨_, rfl⟩
          have HTD := Lib.hid (hWD ▸ HS.out.below (Below.refl w'.heap.size w').drew)
          have hask := ask_calls (a 0) (A 0) k ⟨on, kd, ⟨acc, ast⟩, n, v⟩ WD (HTD.out.sa 0 (by decide)) (HTD.out.sim 0 (by decide)) (HTD.out.bnd 0 (by decide)) (by omega) HIN.out (HGG.out.below HTD.out.bel) (fun i hi => Nat.lt_of_lt_of_le HGG.out.lt (HTD.out.la 0 (by decide) i hi))
          have htell := fun (w3 : World) (h : RSAt w3 (d 0)) => tell_calls (d 0) (A 0) k (a 0).n ⟨on, kd, ⟨acc, ast⟩, n, v⟩ w3 h (HTD.out.rsim 0 (by decide)) (HTD.out.sh 0 (by decide)) (HTD.out.bnd 0 (by decide)) (by omega) (wfI_le HIN.out)
          have hwd : Below w0.heap.size w' WD := hWD ▸ (Below.refl w0.heap.size w').drew
          have HEB := Lib.hid (fun w3 (hb : But WD w3 (a 0).of) => hwd.trans (hb.to_below (HTD.out.la 0 (by decide)) HTD.out.bel.size))
          have HASK := Lib.hid hask
          have HTELL := Lib.hid htell
          have HWD := Lib.hid hWD
          clear hask htell hWD hwd
          go_region_held3 (fun w' => w'.cell? ⟨gx, 0, none⟩ = some (.pointer (some ⟨(a 0).p, 0, none⟩)) ∧ w'.cell? ⟨gr, 0, none⟩ = some (.pointer (some ⟨(d 0).p, 0, none⟩)) ∧ w'.cell? (ad.add (k * 6)) = some (.int .i64 on) ∧ w'.cell? ⟨(ad.add (k * 6)).block, (ad.add (k * 6)).off + 1, none⟩ = some (.int .i64 kd) ∧ w'.cell? ⟨(ad.add (k * 6)).block, (ad.add (k * 6)).off + 2, none⟩ = some (.int .i64 acc) ∧ w'.cell? ⟨(ad.add (k * 6)).block, (ad.add (k * 6)).off + 3, none⟩ = some (.int .i64 ast) ∧ w'.cell? ⟨(ad.add (k * 6)).block, (ad.add (k * 6)).off + 4, none⟩ = some (.int .i64 n) ∧ w'.cell? ⟨(ad.add (k * 6)).block, (ad.add (k * 6)).off + 5, none⟩ = some (.string v))
            (first | go_keep | fail)
            (first
              | (go_at_call 10; rw [HWD.out]; refine HASK.out.mono ?_; rintro e w3 ⟨s', he, hA⟩; obtain rfl : e = .returned (.agg #[.string av, .int .i64 an, .bool aok]) := by rw [he, HSD.out]; rfl
                 obtain ⟨hm1, hm2, hm3⟩ := HTD.out.mid (j := 0) (by decide) hA.but
                 have hb3 := HEB.out w3 hA.but
                 have z0 : w3.cell? ⟨gx, 0, none⟩ = some (.pointer (some ⟨(a 0).p, 0, none⟩)) := hm2.cell 0
                 have z1 : w3.cell? ⟨gr, 0, none⟩ = some (.pointer (some ⟨(d 0).p, 0, none⟩)) := hm3.cell 0
                 have w3_0 : w3.cell? (ad.add (k * 6)) = some (.int .i64 on) := cell_low hb3 hadk e0; have w3_1 : w3.cell? ⟨(ad.add (k * 6)).block, (ad.add (k * 6)).off + 1, none⟩ = some (.int .i64 kd) := cell_low hb3 hadk e1; have w3_2 : w3.cell? ⟨(ad.add (k * 6)).block, (ad.add (k * 6)).off + 2, none⟩ = some (.int .i64 acc) := cell_low hb3 hadk e2; have w3_3 : w3.cell? ⟨(ad.add (k * 6)).block, (ad.add (k * 6)).off + 3, none⟩ = some (.int .i64 ast) := cell_low hb3 hadk e3; have w3_4 : w3.cell? ⟨(ad.add (k * 6)).block, (ad.add (k * 6)).off + 4, none⟩ = some (.int .i64 n) := cell_low hb3 hadk e4; have w3_5 : w3.cell? ⟨(ad.add (k * 6)).block, (ad.add (k * 6)).off + 5, none⟩ = some (.string v) := cell_low hb3 hadk e5
                 have HB3 := Lib.hid hb3
                 have HA := Lib.hid hA
                 have HM := Lib.hid hm1
                 clear hA hm1 hm2 hm3 hb3 he)
              | (go_at_call 11; refine (HTELL.out w3 HM.out).mono ?_; rintro e w4 ⟨r', he, hR⟩; obtain rfl : e = .returned (.agg #[.string av, .int .i64 an, .bool aok]) := by rw [he, HSD.out]; rfl
                 have hT := HTD.out.step (j := 0) (by decide) HA.out hR
                 have hb4 := HB3.out.trans (hR.but.to_below (HTD.out.ld 0 (by decide)) (Nat.le_trans HTD.out.bel.size HA.out.but.size))
                 have z2 : w4.cell? ⟨gx, 0, none⟩ = some (.pointer (some ⟨(a 0).p, 0, none⟩)) := (hT.bx.cell 0).trans (by show some (Value.pointer (some ⟨(upd a 0 s' 0).p, 0, none⟩)) = _; rw [upd_at, HA.out.ep])
                 have z3 : w4.cell? ⟨gr, 0, none⟩ = some (.pointer (some ⟨(d 0).p, 0, none⟩)) := (hT.br.cell 0).trans (by show some (Value.pointer (some ⟨(upd d 0 r' 0).p, 0, none⟩)) = _; rw [upd_at, hR.p])
                 have w4_0 : w4.cell? (ad.add (k * 6)) = some (.int .i64 on) := cell_low hb4 hadk e0; have w4_1 : w4.cell? ⟨(ad.add (k * 6)).block, (ad.add (k * 6)).off + 1, none⟩ = some (.int .i64 kd) := cell_low hb4 hadk e1; have w4_2 : w4.cell? ⟨(ad.add (k * 6)).block, (ad.add (k * 6)).off + 2, none⟩ = some (.int .i64 acc) := cell_low hb4 hadk e2; have w4_3 : w4.cell? ⟨(ad.add (k * 6)).block, (ad.add (k * 6)).off + 3, none⟩ = some (.int .i64 ast) := cell_low hb4 hadk e3; have w4_4 : w4.cell? ⟨(ad.add (k * 6)).block, (ad.add (k * 6)).off + 4, none⟩ = some (.int .i64 n) := cell_low hb4 hadk e4; have w4_5 : w4.cell? ⟨(ad.add (k * 6)).block, (ad.add (k * 6)).off + 5, none⟩ = some (.string v) := cell_low hb4 hadk e5
                 have HT := Lib.hid hT
                 clear hT hR he hb4))
          go_wp2_with (fail)
          go_roundw
          case rel => exact ⟨k + 1, _, _, _, P, _, by omega, rfl, by go_num, HT.out⟩
          case measure => simp [intOf]; omega
        · as_aux_lemma =>
          obtain ⟨sd, hsd⟩ : ∃ sd, ansA (A 1) (a 1).n ⟨on, kd, ⟨acc, ast⟩, n, v⟩ = sd := ⟨_, rfl⟩
          obtain ⟨av, an, aok⟩ := sd
          have HSD := Lib.hid hsd
          clear hsd
          go_upto_region 11 with fail
          have y0 : w'.cell? ⟨gx, 1, none⟩ = some (.pointer (some ⟨(a 1).p, 0, none⟩)) := HS.out.bx.cell 1
          have y1 : w'.cell? ⟨gr, 1, none⟩ = some (.pointer (some ⟨(d 1).p, 0, none⟩)) := HS.out.br.cell 1
          obtain ⟨WD, hWD⟩ : ∃ X, w'.drew = X := ⟨_, rfl⟩
          have HTD := Lib.hid (hWD ▸ HS.out.below (Below.refl w'.heap.size w').drew)
          have hask := ask_calls (a 1) (A 1) k ⟨on, kd, ⟨acc, ast⟩, n, v⟩ WD (HTD.out.sa 1 (by decide)) (HTD.out.sim 1 (by decide)) (HTD.out.bnd 1 (by decide)) (by omega) HIN.out (HGG.out.below HTD.out.bel) (fun i hi => Nat.lt_of_lt_of_le HGG.out.lt (HTD.out.la 1 (by decide) i hi))
          have htell := fun (w3 : World) (h : RSAt w3 (d 1)) => tell_calls (d 1) (A 1) k (a 1).n ⟨on, kd, ⟨acc, ast⟩, n, v⟩ w3 h (HTD.out.rsim 1 (by decide)) (HTD.out.sh 1 (by decide)) (HTD.out.bnd 1 (by decide)) (by omega) (wfI_le HIN.out)
          have hwd : Below w0.heap.size w' WD := hWD ▸ (Below.refl w0.heap.size w').drew
          have HEB := Lib.hid (fun w3 (hb : But WD w3 (a 1).of) => hwd.trans (hb.to_below (HTD.out.la 1 (by decide)) HTD.out.bel.size))
          have HASK := Lib.hid hask
          have HTELL := Lib.hid htell
          have HWD := Lib.hid hWD
          clear hask htell hWD hwd
          go_region_held3 (fun w' => w'.cell? ⟨gx, 1, none⟩ = some (.pointer (some ⟨(a 1).p, 0, none⟩)) ∧ w'.cell? ⟨gr, 1, none⟩ = some (.pointer (some ⟨(d 1).p, 0, none⟩)) ∧ w'.cell? (ad.add (k * 6)) = some (.int .i64 on) ∧ w'.cell? ⟨(ad.add (k * 6)).block, (ad.add (k * 6)).off + 1, none⟩ = some (.int .i64 kd) ∧ w'.cell? ⟨(ad.add (k * 6)).block, (ad.add (k * 6)).off + 2, none⟩ = some (.int .i64 acc) ∧ w'.cell? ⟨(ad.add (k * 6)).block, (ad.add (k * 6)).off + 3, none⟩ = some (.int .i64 ast) ∧ w'.cell? ⟨(ad.add (k * 6)).block, (ad.add (k * 6)).off + 4, none⟩ = some (.int .i64 n) ∧ w'.cell? ⟨(ad.add (k * 6)).block, (ad.add (k * 6)).off + 5, none⟩ = some (.string v))
            (first | go_keep | fail)
            (first
              | (go_at_call 10; rw [HWD.out]; refine HASK.out.mono ?_; rintro e w3 ⟨s', he, hA⟩; obtain rfl : e = .returned (.agg #[.string av, .int .i64 an, .bool aok]) := by rw [he, HSD.out]; rfl
                 obtain ⟨hm1, hm2, hm3⟩ := HTD.out.mid (j := 1) (by decide) hA.but
                 have hb3 := HEB.out w3 hA.but
                 have z0 : w3.cell? ⟨gx, 1, none⟩ = some (.pointer (some ⟨(a 1).p, 0, none⟩)) := hm2.cell 1
                 have z1 : w3.cell? ⟨gr, 1, none⟩ = some (.pointer (some ⟨(d 1).p, 0, none⟩)) := hm3.cell 1
                 have w3_0 : w3.cell? (ad.add (k * 6)) = some (.int .i64 on) := cell_low hb3 hadk e0; have w3_1 : w3.cell? ⟨(ad.add (k * 6)).block, (ad.add (k * 6)).off + 1, none⟩ = some (.int .i64 kd) := cell_low hb3 hadk e1; have w3_2 : w3.cell? ⟨(ad.add (k * 6)).block, (ad.add (k * 6)).off + 2, none⟩ = some (.int .i64 acc) := cell_low hb3 hadk e2; have w3_3 : w3.cell? ⟨(ad.add (k * 6)).block, (ad.add (k * 6)).off + 3, none⟩ = some (.int .i64 ast) := cell_low hb3 hadk e3; have w3_4 : w3.cell? ⟨(ad.add (k * 6)).block, (ad.add (k * 6)).off + 4, none⟩ = some (.int .i64 n) := cell_low hb3 hadk e4; have w3_5 : w3.cell? ⟨(ad.add (k * 6)).block, (ad.add (k * 6)).off + 5, none⟩ = some (.string v) := cell_low hb3 hadk e5
                 have HB3 := Lib.hid hb3
                 have HA := Lib.hid hA
                 have HM := Lib.hid hm1
                 clear hA hm1 hm2 hm3 hb3 he)
              | (go_at_call 11; refine (HTELL.out w3 HM.out).mono ?_; rintro e w4 ⟨r', he, hR⟩; obtain rfl : e = .returned (.agg #[.string av, .int .i64 an, .bool aok]) := by rw [he, HSD.out]; rfl
                 have hT := HTD.out.step (j := 1) (by decide) HA.out hR
                 have hb4 := HB3.out.trans (hR.but.to_below (HTD.out.ld 1 (by decide)) (Nat.le_trans HTD.out.bel.size HA.out.but.size))
                 have z2 : w4.cell? ⟨gx, 1, none⟩ = some (.pointer (some ⟨(a 1).p, 0, none⟩)) := (hT.bx.cell 1).trans (by show some (Value.pointer (some ⟨(upd a 1 s' 1).p, 0, none⟩)) = _; rw [upd_at, HA.out.ep])
                 have z3 : w4.cell? ⟨gr, 1, none⟩ = some (.pointer (some ⟨(d 1).p, 0, none⟩)) := (hT.br.cell 1).trans (by show some (Value.pointer (some ⟨(upd d 1 r' 1).p, 0, none⟩)) = _; rw [upd_at, hR.p])
                 have w4_0 : w4.cell? (ad.add (k * 6)) = some (.int .i64 on) := cell_low hb4 hadk e0; have w4_1 : w4.cell? ⟨(ad.add (k * 6)).block, (ad.add (k * 6)).off + 1, none⟩ = some (.int .i64 kd) := cell_low hb4 hadk e1; have w4_2 : w4.cell? ⟨(ad.add (k * 6)).block, (ad.add (k * 6)).off + 2, none⟩ = some (.int .i64 acc) := cell_low hb4 hadk e2; have w4_3 : w4.cell? ⟨(ad.add (k * 6)).block, (ad.add (k * 6)).off + 3, none⟩ = some (.int .i64 ast) := cell_low hb4 hadk e3; have w4_4 : w4.cell? ⟨(ad.add (k * 6)).block, (ad.add (k * 6)).off + 4, none⟩ = some (.int .i64 n) := cell_low hb4 hadk e4; have w4_5 : w4.cell? ⟨(ad.add (k * 6)).block, (ad.add (k * 6)).off + 5, none⟩ = some (.string v) := cell_low hb4 hadk e5
                 have HT := Lib.hid hT
                 clear hT hR he hb4))
          go_wp2_with (fail)
          go_roundw
          case rel => exact ⟨k + 1, _, _, _, P, _, by omega, rfl, by go_num, HT.out⟩
          case measure => simp [intOf]; omega
    · obtain rfl : k = cs.length := by omega
      go_wp2_with (fail)
      refine (hS.apartC (by omega)).mono ?_
      rintro e w3 ⟨rfl, hS3⟩
      have HS3 := Lib.hid hS3
      clear hS hS3
      go_wp2_with (fail)
      go_loopw [14] (fun i wr => ∃ m : Nat, m ≤ 2 ∧ i = .int .i64 m ∧ Sc11 w0 wr cs.length gx gr a d A (.slice none 0 0) []) (fun i _ => 2 - (intOf i).toNat)
      case atStart => exact ⟨0, by omega, rfl, HS3.out⟩
      case round =>
        clear HS3
        obtain ⟨m, hm, rfl, hS⟩ := hrel
        have HS := Lib.hid hS
        clear hS
        have hm3 : m = 0 ∨ m = 1 ∨ m = 2 := by omega
        rcases hm3 with rfl | rfl | rfl
        · as_aux_lemma =>
            go_upto_region 23 with fail
            have x0wr : wr.cell? ⟨gx, 0, none⟩ = some (.pointer (some ⟨(a 0).p, 0, none⟩)) := HS.out.bx.cell 0; have x1wr : wr.cell? ⟨gr, 0, none⟩ = some (.pointer (some ⟨(d 0).p, 0, none⟩)) := HS.out.br.cell 0; have x2wr : wr.cell? ⟨(d 0).p, 0, none⟩ = some (.int .i64 (a 0).n) := HS.out.shR (by decide)
            obtain ⟨WD, hWD⟩ : ∃ X, wr.drew = X := ⟨_, rfl⟩
            have HTD := Lib.hid (hWD ▸ HS.out.below (Below.refl wr.heap.size wr).drew)
            have HWD := Lib.hid hWD
            clear hWD HS
            go_region_held3 (fun w' => w'.cell? ⟨gx, 0, none⟩ = some (.pointer (some ⟨(a 0).p, 0, none⟩)) ∧ w'.cell? ⟨gr, 0, none⟩ = some (.pointer (some ⟨(d 0).p, 0, none⟩)) ∧ w'.cell? ⟨(d 0).p, 0, none⟩ = some (.int .i64 (a 0).n))
              (first | go_keep | fail)
              (first
                | (go_at_call 12; rw [HWD.out]; refine (HTD.out.keys (by omega) (j := 0) (by decide)).mono ?_; rintro e w5 ⟨B1, c1, rfl, hx, hb⟩; have HX5 := Lib.hid hx; clear hx; have hT := HTD.out.below hb; have x0w5 : w5.cell? ⟨gx, 0, none⟩ = some (.pointer (some ⟨(a 0).p, 0, none⟩)) := hT.bx.cell 0; have x1w5 : w5.cell? ⟨gr, 0, none⟩ = some (.pointer (some ⟨(d 0).p, 0, none⟩)) := hT.br.cell 0; have x2w5 : w5.cell? ⟨(d 0).p, 0, none⟩ = some (.int .i64 (a 0).n) := hT.shR (by decide); have HTw5 := Lib.hid hT; clear hb hT)
                | (go_at_call 14; refine (HTw5.out.keysR (by omega) (j := 0) (by decide)).mono ?_; rintro e w6 ⟨B2, c2, rfl, hx, hb⟩; have HX6 := Lib.hid hx; have HY5 := Lib.hid (own_up HX5.out hb); clear hx; have hT := HTw5.out.below hb; have x0w6 : w6.cell? ⟨gx, 0, none⟩ = some (.pointer (some ⟨(a 0).p, 0, none⟩)) := hT.bx.cell 0; have x1w6 : w6.cell? ⟨gr, 0, none⟩ = some (.pointer (some ⟨(d 0).p, 0, none⟩)) := hT.br.cell 0; have x2w6 : w6.cell? ⟨(d 0).p, 0, none⟩ = some (.int .i64 (a 0).n) := hT.shR (by decide); have HTw6 := Lib.hid hT; clear hb hT)
                | (go_at_call 13; refine (sameK_own (ksOf A 0) B1 B2 c1 c2 w6 HY5.out HX6.out (by have := HTw6.out.ksN (j := 0) (by decide); omega)).mono ?_; rintro e w7 ⟨rfl, hb⟩; have hT := HTw6.out.below hb; have x0w7 : w7.cell? ⟨gx, 0, none⟩ = some (.pointer (some ⟨(a 0).p, 0, none⟩)) := hT.bx.cell 0; have x1w7 : w7.cell? ⟨gr, 0, none⟩ = some (.pointer (some ⟨(d 0).p, 0, none⟩)) := hT.br.cell 0; have x2w7 : w7.cell? ⟨(d 0).p, 0, none⟩ = some (.int .i64 (a 0).n) := hT.shR (by decide); have HTw7 := Lib.hid hT; clear hb hT)
                | (go_at_call 16; refine (HTw7.out.vers (by omega) (j := 0) (by decide)).mono ?_; rintro e w8 ⟨rfl, hb⟩; have hT := HTw7.out.below hb; have x0w8 : w8.cell? ⟨gx, 0, none⟩ = some (.pointer (some ⟨(a 0).p, 0, none⟩)) := hT.bx.cell 0; have x1w8 : w8.cell? ⟨gr, 0, none⟩ = some (.pointer (some ⟨(d 0).p, 0, none⟩)) := hT.br.cell 0; have x2w8 : w8.cell? ⟨(d 0).p, 0, none⟩ = some (.int .i64 (a 0).n) := hT.shR (by decide); have HTw8 := Lib.hid hT; clear hb hT)
                | (go_at_call 17; refine (HTw8.out.versR (by omega) (j := 0) (by decide)).mono ?_; rintro e w9 ⟨rfl, rfl⟩; )
                | (go_at_call 18; refine (HTw8.out.shC (j := 0) (by decide)).mono ?_; rintro e wA ⟨rfl, rfl⟩; ))
            go_wp2_with (fail)
            go_roundw
            case rel => exact ⟨1, by omega, by go_num, HTw8.out⟩
            case measure => simp [intOf]
        · as_aux_lemma =>
            go_upto_region 23 with fail
            have x0wr : wr.cell? ⟨gx, 1, none⟩ = some (.pointer (some ⟨(a 1).p, 0, none⟩)) := HS.out.bx.cell 1; have x1wr : wr.cell? ⟨gr, 1, none⟩ = some (.pointer (some ⟨(d 1).p, 0, none⟩)) := HS.out.br.cell 1; have x2wr : wr.cell? ⟨(d 1).p, 0, none⟩ = some (.int .i64 (a 1).n) := HS.out.shR (by decide)
            obtain ⟨WD, hWD⟩ : ∃ X, wr.drew = X := ⟨_, rfl⟩
            have HTD := Lib.hid (hWD ▸ HS.out.below (Below.refl wr.heap.size wr).drew)
            have HWD := Lib.hid hWD
            clear hWD HS
            go_region_held3 (fun w' => w'.cell? ⟨gx, 1, none⟩ = some (.pointer (some ⟨(a 1).p, 0, none⟩)) ∧ w'.cell? ⟨gr, 1, none⟩ = some (.pointer (some ⟨(d 1).p, 0, none⟩)) ∧ w'.cell? ⟨(d 1).p, 0, none⟩ = some (.int .i64 (a 1).n))
              (first | go_keep | fail)
              (first
                | (go_at_call 12; rw [HWD.out]; refine (HTD.out.keys (by omega) (j := 1) (by decide)).mono ?_; rintro e w5 ⟨B1, c1, rfl, hx, hb⟩; have HX5 := Lib.hid hx; clear hx; have hT := HTD.out.below hb; have x0w5 : w5.cell? ⟨gx, 1, none⟩ = some (.pointer (some ⟨(a 1).p, 0, none⟩)) := hT.bx.cell 1; have x1w5 : w5.cell? ⟨gr, 1, none⟩ = some (.pointer (some ⟨(d 1).p, 0, none⟩)) := hT.br.cell 1; have x2w5 : w5.cell? ⟨(d 1).p, 0, none⟩ = some (.int .i64 (a 1).n) := hT.shR (by decide); have HTw5 := Lib.hid hT; clear hb hT)
                | (go_at_call 14; refine (HTw5.out.keysR (by omega) (j := 1) (by decide)).mono ?_; rintro e w6 ⟨B2, c2, rfl, hx, hb⟩; have HX6 := Lib.hid hx; have HY5 := Lib.hid (own_up HX5.out hb); clear hx; have hT := HTw5.out.below hb; have x0w6 : w6.cell? ⟨gx, 1, none⟩ = some (.pointer (some ⟨(a 1).p, 0, none⟩)) := hT.bx.cell 1; have x1w6 : w6.cell? ⟨gr, 1, none⟩ = some (.pointer (some ⟨(d 1).p, 0, none⟩)) := hT.br.cell 1; have x2w6 : w6.cell? ⟨(d 1).p, 0, none⟩ = some (.int .i64 (a 1).n) := hT.shR (by decide); have HTw6 := Lib.hid hT; clear hb hT)
                | (go_at_call 13; refine (sameK_own (ksOf A 1) B1 B2 c1 c2 w6 HY5.out HX6.out (by have := HTw6.out.ksN (j := 1) (by decide); omega)).mono ?_; rintro e w7 ⟨rfl, hb⟩; have hT := HTw6.out.below hb; have x0w7 : w7.cell? ⟨gx, 1, none⟩ = some (.pointer (some ⟨(a 1).p, 0, none⟩)) := hT.bx.cell 1; have x1w7 : w7.cell? ⟨gr, 1, none⟩ = some (.pointer (some ⟨(d 1).p, 0, none⟩)) := hT.br.cell 1; have x2w7 : w7.cell? ⟨(d 1).p, 0, none⟩ = some (.int .i64 (a 1).n) := hT.shR (by decide); have HTw7 := Lib.hid hT; clear hb hT)
                | (go_at_call 16; refine (HTw7.out.vers (by omega) (j := 1) (by decide)).mono ?_; rintro e w8 ⟨rfl, hb⟩; have hT := HTw7.out.below hb; have x0w8 : w8.cell? ⟨gx, 1, none⟩ = some (.pointer (some ⟨(a 1).p, 0, none⟩)) := hT.bx.cell 1; have x1w8 : w8.cell? ⟨gr, 1, none⟩ = some (.pointer (some ⟨(d 1).p, 0, none⟩)) := hT.br.cell 1; have x2w8 : w8.cell? ⟨(d 1).p, 0, none⟩ = some (.int .i64 (a 1).n) := hT.shR (by decide); have HTw8 := Lib.hid hT; clear hb hT)
                | (go_at_call 17; refine (HTw8.out.versR (by omega) (j := 1) (by decide)).mono ?_; rintro e w9 ⟨rfl, rfl⟩; )
                | (go_at_call 18; refine (HTw8.out.shC (j := 1) (by decide)).mono ?_; rintro e wA ⟨rfl, rfl⟩; ))
            go_wp2_with (fail)
            go_roundw
            case rel => exact ⟨2, by omega, by go_num, HTw8.out⟩
            case measure => simp [intOf]
        · go_wp2
          go_ret
          exact ⟨rfl, HS.out.bel⟩
end Go.Proofs.YtflkddllofeiaaaGreatDoor
