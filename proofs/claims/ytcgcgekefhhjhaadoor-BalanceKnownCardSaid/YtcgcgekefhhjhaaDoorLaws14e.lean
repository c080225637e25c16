/- The walk of the law BalanceConserves (printed by gen_laws14e.py). -/
import Derived.Test.YtcgcgekefhhjhaaDoorLaws14b
import Derived.Test.YtcgcgekefhhjhaaDoorOpen14
namespace Go.Proofs.YtcgcgekefhhjhaaDoor
set_option linter.unusedSimpArgs false
set_option linter.unusedVariables false
open Go.RowKit

theorem calls_at {w : World} {B : Nat} {A : Option Addr} {xs : List CallR} (h : Reads w B 3 A xs.length (xs.flatMap CallR.cs)) {k : Nat} (hk : k < xs.length) :
    ∃ ad, A = some ad ∧ ad.block < B ∧ w.cell? (ad.add (k * 3)) = some (.int .i64 xs[k].kind) ∧ w.cell? ⟨(ad.add (k * 3)).block, (ad.add (k * 3)).off + 1, none⟩ = some (.int .i64 xs[k].qty) ∧ w.cell? ⟨(ad.add (k * 3)).block, (ad.add (k * 3)).off + 2, none⟩ = some (.int .i64 xs[k].nm) := by
  obtain ⟨ad, e, hb, h0, h1⟩ := Reads.elem CallR.len h hk
  exact ⟨ad, e, hb, h0 _ rfl, h1 1 _ (by omega) rfl, h1 2 _ (by omega) rfl⟩
theorem bad_zero (b : Int × Option Int) : (Res.bad b).a = 0 ∧ (Res.bad b).l = [] := ⟨rfl, rfl⟩
theorem ask_bad {k a q n : Int} {l : List Mk} (h : (askS k a l q n).e ≠ 0) : (askS k a l q n).a = 0 ∧ (askS k a l q n).l = [] := by
  unfold askS creditS debitS markS unmarkS at h ⊢
  repeat' split
  all_goals first | exact bad_zero _ | (exfalso; apply h; simp_all)
theorem ask_good {k a q n : Int} {l : List Mk} (hr : Right a l) (h : (askS k a l q n).e = 0) :
    Right (askS k a l q n).a (askS k a l q n).l ∧ 1 ≤ q ∧ (k = 0 → (askS k a l q n).a + sumQ (askS k a l q n).l = a + sumQ l + q) ∧ (k = 1 → (askS k a l q n).a + sumQ (askS k a l q n).l = a + sumQ l - q) ∧ (k ≠ 0 → k ≠ 1 → (askS k a l q n).a + sumQ (askS k a l q n).l = a + sumQ l) := by
  have ha : a ≤ MaxA := right_a1 hr
  unfold askS at h ⊢
  by_cases h0 : k = 0
  · rw [if_pos h0] at h ⊢
    obtain ⟨_, h1, h2, he⟩ := credit_zero ha h
    rw [he]
    exact ⟨credit_right hr h1 h2, h1, fun _ => by show a + q + sumQ l = _; omega, fun h => by omega, fun h => absurd h0 h⟩
  · rw [if_neg h0] at h ⊢
    by_cases h1 : k = 1
    · rw [if_pos h1] at h ⊢
      obtain ⟨_, h2, h3, h4, h5, he⟩ := debit_zero ha h
      rw [he]
      have hs := sumQ_setQ hr.up n (getQ l n - min (getQ l n) q)
      exact ⟨debit_right hr h2 h3 h4 h5, h2, fun h => absurd h h0, fun _ => by show a + min (getQ l n) q - q + sumQ (setQ l n _) = _; rw [hs]; omega, fun _ h => absurd h1 h⟩
    · rw [if_neg h1] at h ⊢
      by_cases h2 : k = 2
      · rw [if_pos h2] at h ⊢
        obtain ⟨_, h3, h4, h5, h6, h7, he⟩ := mark_zero ha h
        rw [he]
        have hs := sumQ_setQ hr.up n (getQ l n + q)
        exact ⟨mark_right hr h3 h4 h5 h6 h7, h3, fun h => absurd h h0, fun h => absurd h h1, fun _ _ => by show a - q + sumQ (setQ l n _) = _; rw [hs]; omega⟩
      · rw [if_neg h2] at h ⊢
        obtain ⟨_, h3, h4, h5, h6, he⟩ := unmark_zero ha h
        rw [he]
        have hs := sumQ_setQ hr.up n (getQ l n - q)
        exact ⟨unmark_right hr h3 h4 h5 h6, h3, fun h => absurd h h0, fun h => absurd h h1, fun _ _ => by show a + q + sumQ (setQ l n _) = _; rw [hs]; omega⟩

set_option maxRecDepth 100000 in
set_option maxHeartbeats 4000000 in
theorem lawConserves_calls (l : List CallR) (A : Option Addr) (c : Nat) (w : World) (hr : Reads w w.heap.size 3 A l.length (l.flatMap CallR.cs)) (hlen : l.length ≤ 9223372036854775000) (hG : HG w) :
    Calls Tryd.prog 7 #[.slice A l.length c] w fun e w' => e = .returned (.bool true) ∧ Below w.heap.size w w' := by
  have HR_0 := Lib.hid (hr)
  have HBB_0 : Hid (w.heap.size ≤ w.heap.size) := Lib.hid (Nat.le_refl w.heap.size)
  have HG_0 := Lib.hid (hG)
  have HB_0 := Lib.hid (Below.refl w.heap.size w)
  clear hr hG
  go_enter Tryd.func7, Tryd.ntmps7
  go_wp2_with (fail)
  refine (works_calls w HG_0.out).mono ?_
  rintro e w1 ⟨rfl, hbw1⟩
  have HR_1 := Lib.hid (HR_0.out.below (hbw1.mono HBB_0.out))
  have HBB_1 : Hid (w.heap.size ≤ w1.heap.size) := Lib.hid (Nat.le_trans HBB_0.out hbw1.size)
  have HG_1 := Lib.hid (HG_0.out.below hbw1)
  have HB_1 := Lib.hid (HB_0.out.trans (hbw1.mono HB_0.out.size))
  clear hbw1
  obtain ⟨gp, hgp⟩ : ∃ g, w1.heap.size = g := ⟨_, rfl⟩
  obtain ⟨W2, hW2⟩ : ∃ X, w1.alloc (.cells #[.int .i64 0, .slice none 0 0] 24) = X := ⟨_, rfl⟩
  have hbW2 : Below w1.heap.size w1 W2 := hW2 ▸ (Below.refl _ _).alloc (Nat.le_refl _) _
  have hnp : Blk W2 gp 24 #[.int .i64 0, .slice none 0 0] := by rw [← hW2]; exact blkNew hgp
  have HR_2 := Lib.hid (HR_1.out.below (hbW2.mono HBB_1.out))
  have HBB_2 : Hid (w.heap.size ≤ W2.heap.size) := Lib.hid (Nat.le_trans HBB_1.out hbW2.size)
  have HG_2 := Lib.hid (HG_1.out.below hbW2)
  have HB_2 := Lib.hid (HB_1.out.trans (hbW2.mono HB_1.out.size))
  have Pp_2 := Lib.hid (hnp)
  clear hbW2 hnp
  have cPp0_2 : W2.cell? ⟨gp, 0, none⟩ = some (.int .i64 0) := Pp_2.out.cell 0
  have cPp1_2 : W2.cell? ⟨gp, 1, none⟩ = some (.slice none 0 0) := Pp_2.out.cell 1
  have zPp0_2 := Pp_2.out.frozen 0
  have zPp1_2 := Pp_2.out.frozen 1
  have s0 := setCell_same (v := .int .i64 0) (i := 0) Pp_2.out rfl
  have s1 := setCell_same (v := .slice none 0 0) (i := 1) Pp_2.out rfl
  have HGE : Hid (w.heap.size ≤ gp) := by show _ ≤ _; rw [← hgp]; exact HB_1.out.size
  go_wp2_with (fail)
  clear s0 s1
  clear hW2 hgp cPp0_2 cPp1_2 zPp0_2 zPp1_2
  go_loopw [4, 5] (fun su i wr => ∃ k : Nat, k ≤ l.length ∧ i = .int .i64 k ∧ ∃ a m Ap cp, su = .int .i64 (a + sumQ m) ∧ Right a m ∧ Blk wr gp 24 #[.int .i64 a, .slice Ap m.length cp] ∧ OwnM wr w.heap.size (.slice Ap m.length cp) m ∧ Below w.heap.size w wr ∧ HG wr) (fun _ i _ => l.length - (intOf i).toNat)
  case atStart => exact ⟨0, Nat.zero_le _, rfl, 0, [], none, 0, by simp [sumQ], right_nil (by decide) (by decide), Pp_2.out, OwnM.nil _ _, HB_2.out, HG_2.out⟩
  case round =>
    obtain ⟨k, hk, rfl, a, m, Ap, cp, rfl, hrt, hbp, hom, hbr, hgr⟩ := hrel
    have HRT := Lib.hid hrt
    skip
    have HG_3 := Lib.hid (hgr)
    have HB_3 := Lib.hid (hbr)
    have HBB_3 : Hid (w.heap.size ≤ wr.heap.size) := Lib.hid (hbr.size)
    have HR_3 := Lib.hid (HR_0.out.below hbr)
    have Pp_3 := Lib.hid (hbp)
    have Mp_3 := Lib.hid (hom)
    clear hgr hbr hbp hom hrt
    have cPp0_3 : wr.cell? ⟨gp, 0, none⟩ = some (.int .i64 a) := Pp_3.out.cell 0
    have cPp1_3 : wr.cell? ⟨gp, 1, none⟩ = some (.slice Ap m.length cp) := Pp_3.out.cell 1
    by_cases hlt : k < l.length
    · have hkl : (k : Int) < l.length := by omega
      obtain ⟨ad, rfl, hadb, e0, e1, e2⟩ := calls_at HR_3.out hlt
      have hqx := l[k].le
      obtain ⟨x, hx⟩ : ∃ x, l[k] = x := ⟨_, rfl⟩
      rw [hx] at e0 e1 e2 hqx
      obtain ⟨ck, cq, cn, hcq⟩ := x
      dsimp only at e0 e1 e2 hqx
      clear hx
      obtain ⟨su, hsu⟩ : ∃ z, a + sumQ m = z := ⟨_, rfl⟩
      rw [hsu]
      have HSU := Lib.hid hsu
      clear hsu
      obtain ⟨gc, hgc⟩ : ∃ g, wr.heap.size = g := ⟨_, rfl⟩
      obtain ⟨W4, hW4⟩ : ∃ X, wr.alloc (.cells #[.int .i64 ck, .int .i64 cq, .int .i64 cn] 43) = X := ⟨_, rfl⟩
      have hbW4 : Below wr.heap.size wr W4 := hW4 ▸ (Below.refl _ _).alloc (Nat.le_refl _) _
      have hnc : Blk W4 gc 43 #[.int .i64 ck, .int .i64 cq, .int .i64 cn] := by rw [← hW4]; exact blkNew hgc
      have HG_4 := Lib.hid (HG_3.out.below hbW4)
      have HB_4 := Lib.hid (HB_3.out.trans (hbW4.mono HB_3.out.size))
      have HBB_4 : Hid (w.heap.size ≤ W4.heap.size) := Lib.hid (Nat.le_trans HBB_3.out hbW4.size)
      have HR_4 := Lib.hid (HR_3.out.below (hbW4.mono HBB_3.out))
      have Pp_4 := Lib.hid (Pp_3.out.below hbW4 Pp_3.out.lt)
      have Mp_4 := Lib.hid (Mp_3.out.below hbW4)
      have Pc_4 := Lib.hid (hnc)
      clear hbW4 hnc
      have cPp0_4 : W4.cell? ⟨gp, 0, none⟩ = some (.int .i64 a) := Pp_4.out.cell 0
      have cPp1_4 : W4.cell? ⟨gp, 1, none⟩ = some (.slice Ap m.length cp) := Pp_4.out.cell 1
      have cPc0_4 : W4.cell? ⟨gc, 0, none⟩ = some (.int .i64 ck) := Pc_4.out.cell 0
      have cPc1_4 : W4.cell? ⟨gc, 1, none⟩ = some (.int .i64 cq) := Pc_4.out.cell 1
      have cPc2_4 : W4.cell? ⟨gc, 2, none⟩ = some (.int .i64 cn) := Pc_4.out.cell 2
      go_wp2_with (fail)
      refine (ask_calls ck a m Ap cp W4.heap.size cq cn W4 (PosOK.right Mp_4.out HRT.out) (Nat.le_refl _) HG_4.out hqx).mono ?_
      rintro e w5 hres
      obtain ⟨hbw5, Aq, cqq, ev, rfl, hmq, hev⟩ := hres.cases_
      have hmq := hmq.base (show w.heap.size ≤ W4.heap.size from HB_4.out.size)
      clear hres e0 e1 e2
      clear cPp0_3 cPp1_3 hW4 hgc cPp0_4 cPp1_4 cPc0_4 cPc1_4 cPc2_4
      have HG_5 := Lib.hid (HG_4.out.below hbw5)
      have HB_5 := Lib.hid (HB_4.out.trans (hbw5.mono HB_4.out.size))
      have HBB_5 : Hid (w.heap.size ≤ w5.heap.size) := Lib.hid (Nat.le_trans HBB_4.out hbw5.size)
      have HR_5 := Lib.hid (HR_4.out.below (hbw5.mono HBB_4.out))
      have Pp_5 := Lib.hid (Pp_4.out.below hbw5 Pp_4.out.lt)
      have Mp_5 := Lib.hid (Mp_4.out.below hbw5)
      have Pc_5 := Lib.hid (Pc_4.out.below hbw5 Pc_4.out.lt)
      clear hbw5
      obtain ⟨r, hr⟩ : ∃ r, askS ck a m cq cn = r := ⟨_, rfl⟩
      have HBAD : Hid (r.e ≠ 0 → r.a = 0 ∧ r.l = []) := by rw [← hr]; exact ask_bad
      have HGOOD : Hid (r.e = 0 → Right r.a r.l ∧ 1 ≤ cq ∧ (ck = 0 → r.a + sumQ r.l = a + sumQ m + cq) ∧ (ck = 1 → r.a + sumQ r.l = a + sumQ m - cq) ∧ (ck ≠ 0 → ck ≠ 1 → r.a + sumQ r.l = a + sumQ m)) := by rw [← hr]; exact ask_good HRT.out
      rw [hr] at hmq hev ⊢
      clear hr
      obtain ⟨re, rp, ra, rl⟩ := r
      dsimp only at hmq hev HBAD HGOOD ⊢
      skip
      rcases hev with ⟨hz, rfl⟩ | ⟨hz, tv, vv, rfl⟩
      · obtain ⟨hrr, hq1, hk0, hk1, hk2⟩ := HGOOD.out hz
        clear hz HBAD HGOOD
        have Mq_5 := Lib.hid (hmq)
        clear hmq
        have HTOT := Lib.hid (right_total hrr)
        have hsq0 := sumQ_nonneg hrr.q
        have hra0 := hrr.a0
        have hrs := hrr.sum
        unfold MaxA at hrs
        have hsm := HRT.out.sum
        unfold MaxA at hsm
        have hs0 := total_of_right HRT.out
        rw [HSU.out] at hk0 hk1 hk2 hsm hs0
        obtain ⟨tn, htn⟩ : ∃ z, ra + sumQ rl = z := ⟨_, rfl⟩
        rw [htn] at hk0 hk1 hk2 hrs
        have htn0 : 0 ≤ tn := by omega
        have HTN := Lib.hid htn
        have HRR := Lib.hid hrr
        clear hsq0 hra0 htn hrr
        have HK2 := Lib.hid hk2
        have HK0 := Lib.hid hk0
        have HK1 := Lib.hid hk1
        clear hk0 hk1 hk2
        obtain ⟨gq, hgq⟩ : ∃ g, w5.heap.size = g := ⟨_, rfl⟩
        obtain ⟨W6, hW6⟩ : ∃ X, w5.alloc (.cells #[.int .i64 ra, .slice Aq rl.length cqq] 24) = X := ⟨_, rfl⟩
        have hbW6 : Below w5.heap.size w5 W6 := hW6 ▸ (Below.refl _ _).alloc (Nat.le_refl _) _
        have hnq : Blk W6 gq 24 #[.int .i64 ra, .slice Aq rl.length cqq] := by rw [← hW6]; exact blkNew hgq
        have HG_6 := Lib.hid (HG_5.out.below hbW6)
        have HB_6 := Lib.hid (HB_5.out.trans (hbW6.mono HB_5.out.size))
        have HBB_6 : Hid (w.heap.size ≤ W6.heap.size) := Lib.hid (Nat.le_trans HBB_5.out hbW6.size)
        have HR_6 := Lib.hid (HR_5.out.below (hbW6.mono HBB_5.out))
        have Pp_6 := Lib.hid (Pp_5.out.below hbW6 Pp_5.out.lt)
        have Mp_6 := Lib.hid (Mp_5.out.below hbW6)
        have Pc_6 := Lib.hid (Pc_5.out.below hbW6 Pc_5.out.lt)
        have Mq_6 := Lib.hid (Mq_5.out.below hbW6)
        have Pq_6 := Lib.hid (hnq)
        clear hbW6 hnq
        have cPp0_6 : W6.cell? ⟨gp, 0, none⟩ = some (.int .i64 a) := Pp_6.out.cell 0
        have cPp1_6 : W6.cell? ⟨gp, 1, none⟩ = some (.slice Ap m.length cp) := Pp_6.out.cell 1
        have cPc0_6 : W6.cell? ⟨gc, 0, none⟩ = some (.int .i64 ck) := Pc_6.out.cell 0
        have cPc1_6 : W6.cell? ⟨gc, 1, none⟩ = some (.int .i64 cq) := Pc_6.out.cell 1
        have cPc2_6 : W6.cell? ⟨gc, 2, none⟩ = some (.int .i64 cn) := Pc_6.out.cell 2
        have cPq0_6 : W6.cell? ⟨gq, 0, none⟩ = some (.int .i64 ra) := Pq_6.out.cell 0
        have cPq1_6 : W6.cell? ⟨gq, 1, none⟩ = some (.slice Aq rl.length cqq) := Pq_6.out.cell 1
        have zPp0_6 := Pp_6.out.frozen 0
        have zPp1_6 := Pp_6.out.frozen 1
        have hpq : gp ≠ gq := by
          intro h
          have h1 := Pp_5.out.lt
          omega
        obtain ⟨WS, hWS⟩ : ∃ X, (W6.setCell ⟨gp, 0, none⟩ (.int .i64 ra)).setCell ⟨gp, 1, none⟩ (.slice Aq rl.length cqq) = X := ⟨_, rfl⟩
        have hps : Blk WS gp 24 #[.int .i64 ra, .slice Aq rl.length cqq] := by rw [← hWS]; exact (Pp_6.out.set_ 0 _).set_ 1 _
        have hms : OwnM WS w.heap.size (.slice Aq rl.length cqq) rl := by rw [← hWS]; exact (Mq_6.out.far Pp_6.out _ _).far (Pp_6.out.set_ 0 _) _ _
        have hbs : Below w.heap.size w WS := by rw [← hWS]; exact (HB_6.out.setCell (p := ⟨gp, 0, none⟩) HGE.out _).setCell (p := ⟨gp, 1, none⟩) HGE.out _
        have hgs : HG WS := HG_0.out.below hbs
        have HPS := Lib.hid hps
        have HMS := Lib.hid hms
        have HBS := Lib.hid hbs
        have HGS := Lib.hid hgs
        clear hms hbs hgs
        have d0 : WS.cell? ⟨gp, 0, none⟩ = some (.int .i64 ra) := hps.cell 0
        have d1 : WS.cell? ⟨gp, 1, none⟩ = some (.slice Aq rl.length cqq) := hps.cell 1
        clear hps
        have HCK : Hid (outV (chk ra rl) = .nilIface) := by show outV _ = _; unfold outV chk; simp [check_of_right HRR.out]
        by_cases hk0 : ck = 0
        · have e0 := HK0.out hk0
          have hl1 : ¬ cq < 1 := by omega
          have hl2 : ¬ 9223372036854775807 - su < cq := by omega
          have hws : IntKind.i64.wrap (su + cq) = tn := (IntWalk.i64_in _ (by omega)).trans e0.symm
          have hwm : IntKind.i64.wrap (9223372036854775807 - su) = 9223372036854775807 - su := IntWalk.i64_in _ (by omega)
          clear e0
          subst hk0
          go_wp2_with (fail)
          refine (check_calls ra rl Aq cqq WS.heap.size WS (PosOK.right HMS.out HRR.out) (Nat.le_refl _) HGS.out).mono ?_
          rintro e wA ⟨rfl, hbA⟩
          rw [HCK.out]
          have hpA := HPS.out.below hbA HPS.out.lt
          have HPA := Lib.hid hpA
          have HMA := Lib.hid (HMS.out.below hbA)
          have HBA := Lib.hid (HBS.out.trans (hbA.mono HBS.out.size))
          have b0 : wA.cell? ⟨gp, 0, none⟩ = some (.int .i64 ra) := hpA.cell 0
          have b1 : wA.cell? ⟨gp, 1, none⟩ = some (.slice Aq rl.length cqq) := hpA.cell 1
          clear hpA hbA
          go_wp2_with (fail)
          refine (totalX_calls ra rl Aq cqq wA.heap.size wA (PosOK.right HMA.out HRR.out) (Nat.le_refl _)).mono ?_
          rintro e wB ⟨rfl, hbB⟩
          rw [HTOT.out, HTN.out]
          have HPB := Lib.hid (HPA.out.below hbB HPA.out.lt)
          have HMB := Lib.hid (HMA.out.below hbB)
          have HBB2 := Lib.hid (HBA.out.trans (hbB.mono HBA.out.size))
          clear hbB
          go_wp2_with (fail)
          go_roundw
          case rel => exact ⟨k + 1, by omega, by go_num, ra, rl, Aq, cqq, by rw [HTN.out], HRR.out, HPB.out, HMB.out, HBB2.out, HG_0.out.below HBB2.out⟩
          case measure => simp [intOf]; omega
        · have hkb : (ck == 0) = false := by simpa using hk0
          by_cases hk1 : ck = 1
          · have e0 := HK1.out hk1
            have hl1 : ¬ cq < 1 := by omega
            have hl2 : ¬ su < cq := by omega
            have hws : IntKind.i64.wrap (su - cq) = tn := (IntWalk.i64_in _ (by omega)).trans e0.symm
            clear e0
            subst hk1
            go_wp2_with (fail)
            refine (check_calls ra rl Aq cqq WS.heap.size WS (PosOK.right HMS.out HRR.out) (Nat.le_refl _) HGS.out).mono ?_
            rintro e wA ⟨rfl, hbA⟩
            rw [HCK.out]
            have hpA := HPS.out.below hbA HPS.out.lt
            have HPA := Lib.hid hpA
            have HMA := Lib.hid (HMS.out.below hbA)
            have HBA := Lib.hid (HBS.out.trans (hbA.mono HBS.out.size))
            have b0 : wA.cell? ⟨gp, 0, none⟩ = some (.int .i64 ra) := hpA.cell 0
            have b1 : wA.cell? ⟨gp, 1, none⟩ = some (.slice Aq rl.length cqq) := hpA.cell 1
            clear hpA hbA
            go_wp2_with (fail)
            refine (totalX_calls ra rl Aq cqq wA.heap.size wA (PosOK.right HMA.out HRR.out) (Nat.le_refl _)).mono ?_
            rintro e wB ⟨rfl, hbB⟩
            rw [HTOT.out, HTN.out]
            have HPB := Lib.hid (HPA.out.below hbB HPA.out.lt)
            have HMB := Lib.hid (HMA.out.below hbB)
            have HBB2 := Lib.hid (HBA.out.trans (hbB.mono HBA.out.size))
            clear hbB
            go_wp2_with (fail)
            go_roundw
            case rel => exact ⟨k + 1, by omega, by go_num, ra, rl, Aq, cqq, by rw [HTN.out], HRR.out, HPB.out, HMB.out, HBB2.out, HG_0.out.below HBB2.out⟩
            case measure => simp [intOf]; omega
          · have e0 := HK2.out hk0 hk1
            have hl1 : ¬ cq < 1 := by omega
            have hkc : (ck == 1) = false := by simpa using hk1
            subst e0
            go_wp2_with (fail)
            refine (check_calls ra rl Aq cqq WS.heap.size WS (PosOK.right HMS.out HRR.out) (Nat.le_refl _) HGS.out).mono ?_
            rintro e wA ⟨rfl, hbA⟩
            rw [HCK.out]
            have hpA := HPS.out.below hbA HPS.out.lt
            have HPA := Lib.hid hpA
            have HMA := Lib.hid (HMS.out.below hbA)
            have HBA := Lib.hid (HBS.out.trans (hbA.mono HBS.out.size))
            have b0 : wA.cell? ⟨gp, 0, none⟩ = some (.int .i64 ra) := hpA.cell 0
            have b1 : wA.cell? ⟨gp, 1, none⟩ = some (.slice Aq rl.length cqq) := hpA.cell 1
            clear hpA hbA
            go_wp2_with (fail)
            refine (totalX_calls ra rl Aq cqq wA.heap.size wA (PosOK.right HMA.out HRR.out) (Nat.le_refl _)).mono ?_
            rintro e wB ⟨rfl, hbB⟩
            rw [HTOT.out, HTN.out]
            have HPB := Lib.hid (HPA.out.below hbB HPA.out.lt)
            have HMB := Lib.hid (HMA.out.below hbB)
            have HBB2 := Lib.hid (HBA.out.trans (hbB.mono HBA.out.size))
            clear hbB
            go_wp2_with (fail)
            go_roundw
            case rel => exact ⟨k + 1, by omega, by go_num, ra, rl, Aq, cqq, by rw [HTN.out], HRR.out, HPB.out, HMB.out, HBB2.out, HG_0.out.below HBB2.out⟩
            case measure => simp [intOf]; omega
      · obtain ⟨h1, h2⟩ := HBAD.out hz
        subst h1 h2
        clear hz HBAD HGOOD hmq
        obtain ⟨gq, hgq⟩ : ∃ g, w5.heap.size = g := ⟨_, rfl⟩
        obtain ⟨W6, hW6⟩ : ∃ X, w5.alloc (.cells #[.int .i64 0, .slice Aq 0 cqq] 24) = X := ⟨_, rfl⟩
        have hbW6 : Below w5.heap.size w5 W6 := hW6 ▸ (Below.refl _ _).alloc (Nat.le_refl _) _
        have hnq : Blk W6 gq 24 #[.int .i64 0, .slice Aq 0 cqq] := by rw [← hW6]; exact blkNew hgq
        have HG_6 := Lib.hid (HG_5.out.below hbW6)
        have HB_6 := Lib.hid (HB_5.out.trans (hbW6.mono HB_5.out.size))
        have HBB_6 : Hid (w.heap.size ≤ W6.heap.size) := Lib.hid (Nat.le_trans HBB_5.out hbW6.size)
        have HR_6 := Lib.hid (HR_5.out.below (hbW6.mono HBB_5.out))
        have Pp_6 := Lib.hid (Pp_5.out.below hbW6 Pp_5.out.lt)
        have Mp_6 := Lib.hid (Mp_5.out.below hbW6)
        have Pc_6 := Lib.hid (Pc_5.out.below hbW6 Pc_5.out.lt)
        have Pq_6 := Lib.hid (hnq)
        clear hbW6 hnq
        have cPq0_6 : W6.cell? ⟨gq, 0, none⟩ = some (.int .i64 0) := Pq_6.out.cell 0
        have cPq1_6 : W6.cell? ⟨gq, 1, none⟩ = some (.slice Aq 0 cqq) := Pq_6.out.cell 1
        dsimp only [List.length_nil]
        go_wp2_with (fail)
        go_roundw
        case rel => exact ⟨k + 1, by omega, by go_num, a, m, Ap, cp, by rw [HSU.out], HRT.out, Pp_6.out, Mp_6.out, HB_6.out, HG_6.out⟩
        case measure => simp [intOf]; omega
    · obtain rfl : k = l.length := by omega
      go_wp2_with (fail)
      go_ret
      exact ⟨rfl, HB_3.out⟩
end Go.Proofs.YtcgcgekefhhjhaaDoor
