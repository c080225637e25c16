/- The walks of the laws BalanceBack, BalanceFirst, BalanceConserves (printed by gen_laws14b.py). -/
import Derived.Test.YtcgcgekefhhjhaaDoorLaws14
import Derived.Test.YtcgcgekefhhjhaaDoorAsk14
namespace Go.Proofs.YtcgcgekefhhjhaaDoor
set_option linter.unusedSimpArgs false
set_option linter.unusedVariables false
open Go.RowKit

theorem outV_ne {b : Int × Option Int} (h : b.1 ≠ 0) : ∃ t v, outV b = .iface t v := by
  unfold outV
  rw [if_neg h]
  cases b.2 with
  | none => exact ⟨_, _, rfl⟩
  | some p => exact ⟨_, _, rfl⟩
theorem ResTo.cases_ {w w' : World} {r : Res} {e : Ending} (h : ResTo w r e w') : Below w.heap.size w w' ∧ ∃ A c ev, e = .returned (.tuple #[.agg #[.int .i64 r.a, .slice A r.l.length c], ev]) ∧ OwnM w' w.heap.size (.slice A r.l.length c) r.l ∧ ((r.e = 0 ∧ ev = .nilIface) ∨ (r.e ≠ 0 ∧ ∃ t v, ev = .iface t v)) := by
  obtain ⟨hb, v, rfl, hm⟩ := h
  obtain ⟨A, c, rfl⟩ := own_slice hm
  refine ⟨hb, A, c, _, rfl, hm, ?_⟩
  by_cases hz : r.e = 0
  · exact .inl ⟨hz, by unfold outV; rw [if_pos hz]⟩
  · exact .inr ⟨hz, outV_ne (b := (r.e, r.pl)) hz⟩
theorem right_qs {a : Int} {l : List Mk} (h : Right a l) : ∀ x ∈ l, x.q ≤ 9223372036854775807 := by
  intro x hx
  have h1 := getQ_le h.q x.m
  rw [getQ_mem h.up hx] at h1
  have h2 := h.sum
  have h3 := h.a0
  unfold MaxA at h2
  omega
theorem right_a1 {a : Int} {l : List Mk} (h : Right a l) : a ≤ 9223372036854775807 := by
  have h1 := sumQ_nonneg h.q
  have h2 := h.sum
  unfold MaxA at h2
  omega
theorem PosOK.right {w : World} {B : Nat} {a : Int} {l : List Mk} {A : Option Addr} {c : Nat} (h : OwnM w B (.slice A l.length c) l) (hr : Right a l) : PosOK w w.heap.size a l A :=
  ⟨Reads.of_own h, right_a1 hr, right_qs hr, by have := hr.len; omega⟩

set_option maxRecDepth 100000 in
set_option maxHeartbeats 4000000 in
theorem lawBack_calls (a : Int) (l : List Mk) (A : Option Addr) (c B : Nat) (q n : Int) (w : World) (h1 : PosOK w B a l A) (hB : B ≤ w.heap.size) (hG : HG w) (hq : q ≤ 9223372036854775807) :
    Calls Tryd.prog 8 #[.agg #[.int .i64 a, .slice A l.length c], .int .i64 q, .int .i64 n] w fun e w' => e = .returned (.bool true) ∧ Below w.heap.size w w' := by
  have Ha_0 := Lib.hid (h1)
  have HBB_0 : Hid (B ≤ w.heap.size) := Lib.hid (hB)
  have HG_0 := Lib.hid (hG)
  have HB_0 := Lib.hid (Below.refl w.heap.size w)
  clear h1 hB hG
  obtain ⟨ga, hga⟩ : ∃ g, w.heap.size = g := ⟨_, rfl⟩
  obtain ⟨W1, hW1⟩ : ∃ X, w.alloc (.cells #[.int .i64 a, .slice A l.length c] 24) = X := ⟨_, rfl⟩
  have hbW1 : Below w.heap.size w W1 := hW1 ▸ (Below.refl _ _).alloc (Nat.le_refl _) _
  have hna : Blk W1 ga 24 #[.int .i64 a, .slice A l.length c] := by rw [← hW1]; exact blkNew hga
  have Ha_1 := Lib.hid (Ha_0.out.below (hbW1.mono HBB_0.out))
  have HBB_1 : Hid (B ≤ W1.heap.size) := Lib.hid (Nat.le_trans HBB_0.out hbW1.size)
  have HG_1 := Lib.hid (HG_0.out.below hbW1)
  have HB_1 := Lib.hid (HB_0.out.trans (hbW1.mono HB_0.out.size))
  have Pa_1 := Lib.hid (hna)
  clear hbW1 hna
  have HA1 := Lib.hid Ha_0.out.a1
  go_enter Tryd.func8, Tryd.ntmps8
  go_wp2_with (fail)
  refine (works_calls W1 HG_1.out).mono ?_
  rintro e w2 ⟨rfl, hbw2⟩
  clear hW1 hga
  have Ha_2 := Lib.hid (Ha_1.out.below (hbw2.mono HBB_1.out))
  have HBB_2 : Hid (B ≤ w2.heap.size) := Lib.hid (Nat.le_trans HBB_1.out hbw2.size)
  have HG_2 := Lib.hid (HG_1.out.below hbw2)
  have HB_2 := Lib.hid (HB_1.out.trans (hbw2.mono HB_1.out.size))
  have Pa_2 := Lib.hid (Pa_1.out.below hbw2 Pa_1.out.lt)
  clear hbw2
  have cPa0_2 : w2.cell? ⟨ga, 0, none⟩ = some (.int .i64 a) := Pa_2.out.cell 0
  have cPa1_2 : w2.cell? ⟨ga, 1, none⟩ = some (.slice A l.length c) := Pa_2.out.cell 1
  go_wp2_with (fail)
  refine (markX_calls a l A c B q n w2 Ha_2.out HBB_2.out HG_2.out hq).mono ?_
  rintro e w3 hres
  obtain ⟨hbw3, Am, cm, evm, rfl, hmm, hevm⟩ := hres.cases_
  clear hres
  clear cPa0_2 cPa1_2
  have Ha_3 := Lib.hid (Ha_2.out.below (hbw3.mono HBB_2.out))
  have HBB_3 : Hid (B ≤ w3.heap.size) := Lib.hid (Nat.le_trans HBB_2.out hbw3.size)
  have HG_3 := Lib.hid (HG_2.out.below hbw3)
  have HB_3 := Lib.hid (HB_2.out.trans (hbw3.mono HB_2.out.size))
  have Pa_3 := Lib.hid (Pa_2.out.below hbw3 Pa_2.out.lt)
  clear hbw3
  rcases hevm with ⟨hzm, rfl⟩ | ⟨hzm, tm, vm, rfl⟩
  · obtain ⟨hrt, hq1, hn1, hn2, hqa, hl8, heq⟩ := mark_zero (l := l) (q := q) (n := n) (a := a) (show a ≤ MaxA from HA1.out) hzm
    have hbk := back_mark (l := l) (q := q) (n := n) (show a ≤ MaxA from HA1.out) hzm
    have hrm := mark_right hrt hq1 hn1 hn2 hqa hl8
    obtain ⟨a1, ha1⟩ : ∃ x, a - q = x := ⟨_, rfl⟩
    obtain ⟨L1, hL1⟩ : ∃ x, setQ l n (getQ l n + q) = x := ⟨_, rfl⟩
    rw [ha1, hL1] at heq hbk hrm
    have HRM := Lib.hid hrm
    have HRT := Lib.hid hrt
    have HBK := Lib.hid hbk.1
    have HTT := Lib.hid hbk.2
    clear hbk hrm hrt ha1 hL1 hq1 hn1 hn2 hqa hl8
    have HEQm := Lib.hid heq
    rw [heq] at hmm ⊢
    dsimp only at hmm ⊢
    clear heq hzm
    have Mm_3 := Lib.hid (hmm)
    clear hmm
    obtain ⟨gm, hgm⟩ : ∃ g, w3.heap.size = g := ⟨_, rfl⟩
    obtain ⟨W4, hW4⟩ : ∃ X, w3.alloc (.cells #[.int .i64 a1, .slice Am L1.length cm] 24) = X := ⟨_, rfl⟩
    have hbW4 : Below w3.heap.size w3 W4 := hW4 ▸ (Below.refl _ _).alloc (Nat.le_refl _) _
    have hnm : Blk W4 gm 24 #[.int .i64 a1, .slice Am L1.length cm] := by rw [← hW4]; exact blkNew hgm
    have Ha_4 := Lib.hid (Ha_3.out.below (hbW4.mono HBB_3.out))
    have HBB_4 : Hid (B ≤ W4.heap.size) := Lib.hid (Nat.le_trans HBB_3.out hbW4.size)
    have HG_4 := Lib.hid (HG_3.out.below hbW4)
    have HB_4 := Lib.hid (HB_3.out.trans (hbW4.mono HB_3.out.size))
    have Pa_4 := Lib.hid (Pa_3.out.below hbW4 Pa_3.out.lt)
    have Mm_4 := Lib.hid (Mm_3.out.below hbW4)
    have Pm_4 := Lib.hid (hnm)
    clear hbW4 hnm
    have cPa0_4 : W4.cell? ⟨ga, 0, none⟩ = some (.int .i64 a) := Pa_4.out.cell 0
    have cPa1_4 : W4.cell? ⟨ga, 1, none⟩ = some (.slice A l.length c) := Pa_4.out.cell 1
    have cPm0_4 : W4.cell? ⟨gm, 0, none⟩ = some (.int .i64 a1) := Pm_4.out.cell 0
    have cPm1_4 : W4.cell? ⟨gm, 1, none⟩ = some (.slice Am L1.length cm) := Pm_4.out.cell 1
    have HXm := Lib.hid (PosOK.right Mm_4.out HRM.out)
    go_wp2_with (fail)
    refine (unmark_calls a1 L1 Am cm W4.heap.size q n W4 HXm.out (Nat.le_refl _) HG_4.out hq).mono ?_
    rintro e w5 hres
    rw [HBK.out] at hres
    obtain ⟨hbw5, Au, cu, evu, rfl, hmu, hevu⟩ := hres.cases_
    clear hres HXm
    obtain rfl : evu = .nilIface := by
      rcases hevu with ⟨_, h⟩ | ⟨h, _⟩
      · exact h
      · exact absurd rfl h
    dsimp only at hmu ⊢
    clear hevu
    clear hW4 hgm cPa0_4 cPa1_4 cPm0_4 cPm1_4
    have Ha_5 := Lib.hid (Ha_4.out.below (hbw5.mono HBB_4.out))
    have HBB_5 : Hid (B ≤ w5.heap.size) := Lib.hid (Nat.le_trans HBB_4.out hbw5.size)
    have HG_5 := Lib.hid (HG_4.out.below hbw5)
    have HB_5 := Lib.hid (HB_4.out.trans (hbw5.mono HB_4.out.size))
    have Pa_5 := Lib.hid (Pa_4.out.below hbw5 Pa_4.out.lt)
    have Mm_5 := Lib.hid (Mm_4.out.below hbw5)
    have Pm_5 := Lib.hid (Pm_4.out.below hbw5 Pm_4.out.lt)
    clear hbw5
    have Mu_5 := Lib.hid (hmu)
    clear hmu
    obtain ⟨gu, hgu⟩ : ∃ g, w5.heap.size = g := ⟨_, rfl⟩
    obtain ⟨W6, hW6⟩ : ∃ X, w5.alloc (.cells #[.int .i64 a, .slice Au l.length cu] 24) = X := ⟨_, rfl⟩
    have hbW6 : Below w5.heap.size w5 W6 := hW6 ▸ (Below.refl _ _).alloc (Nat.le_refl _) _
    have hnu : Blk W6 gu 24 #[.int .i64 a, .slice Au l.length cu] := by rw [← hW6]; exact blkNew hgu
    have Ha_6 := Lib.hid (Ha_5.out.below (hbW6.mono HBB_5.out))
    have HBB_6 : Hid (B ≤ W6.heap.size) := Lib.hid (Nat.le_trans HBB_5.out hbW6.size)
    have HG_6 := Lib.hid (HG_5.out.below hbW6)
    have HB_6 := Lib.hid (HB_5.out.trans (hbW6.mono HB_5.out.size))
    have Pa_6 := Lib.hid (Pa_5.out.below hbW6 Pa_5.out.lt)
    have Mm_6 := Lib.hid (Mm_5.out.below hbW6)
    have Pm_6 := Lib.hid (Pm_5.out.below hbW6 Pm_5.out.lt)
    have Mu_6 := Lib.hid (Mu_5.out.below hbW6)
    have Pu_6 := Lib.hid (hnu)
    clear hbW6 hnu
    have cPa0_6 : W6.cell? ⟨ga, 0, none⟩ = some (.int .i64 a) := Pa_6.out.cell 0
    have cPa1_6 : W6.cell? ⟨ga, 1, none⟩ = some (.slice A l.length c) := Pa_6.out.cell 1
    have cPm0_6 : W6.cell? ⟨gm, 0, none⟩ = some (.int .i64 a1) := Pm_6.out.cell 0
    have cPm1_6 : W6.cell? ⟨gm, 1, none⟩ = some (.slice Am L1.length cm) := Pm_6.out.cell 1
    have cPu0_6 : W6.cell? ⟨gu, 0, none⟩ = some (.int .i64 a) := Pu_6.out.cell 0
    have cPu1_6 : W6.cell? ⟨gu, 1, none⟩ = some (.slice Au l.length cu) := Pu_6.out.cell 1
    have HXm := Lib.hid (PosOK.right Mm_6.out HRM.out)
    have HXu := Lib.hid (PosOK.right Mu_6.out HRT.out)
    have LA := Lib.hid (show l.length * 16 ≤ 140737488351232 by have := HRT.out.len; omega)
    obtain ⟨tp0, ht0⟩ : ∃ x, totalS a l = x := ⟨_, rfl⟩
    have TA := Lib.hid ht0
    have TM : Hid (totalS a1 L1 = tp0) := HTT.out.trans ht0
    clear ht0
    go_wp2_with (fail)
    refine wp_region_class (InB W6) (by kernel_rfl) (by kernel_rfl) (InB.start _) ?_
    refine BigFrame.wpQuiet_want (by rfl) (fun K hK => ?_)
    refine quiet_value (.nilIface) (fun W hW => ?_) (hK _ ?_)
    · clear hK
      clear hW
      go_simp
    clear hK K
    simp only [Act.put, List.setIfInBounds_toArray, List.set_cons_zero, List.set_cons_succ]
    refine BigFrame.wpQuiet_want (by rfl) (fun K hK => ?_)
    refine quiet_value (.bool false) (fun W hW => ?_) (hK _ ?_)
    · clear hK
      clear hW
      go_simp
    clear hK K
    simp only [Act.put, List.setIfInBounds_toArray, List.set_cons_zero, List.set_cons_succ]
    refine BigFrame.wpQuiet_want (by rfl) (fun K hK => ?_)
    refine quiet_value (.bool false) (fun W hW => ?_) (hK _ ?_)
    · clear hK
      clear hW
      go_simp
    clear hK K
    simp only [Act.put, List.setIfInBounds_toArray, List.set_cons_zero, List.set_cons_succ]
    refine BigFrame.wpQuiet_want (by rfl) (fun K hK => ?_)
    refine quiet_value (.agg #[.int .i64 a, .slice Au l.length cu]) (fun W hW => ?_) (hK _ ?_)
    · clear hK
      have q0 := hW.cell cPu0_6
      have q1 := hW.cell cPu1_6
      clear hW
      go_simp
    clear hK K
    simp only [Act.put, List.setIfInBounds_toArray, List.set_cons_zero, List.set_cons_succ]
    refine BigFrame.wpQuiet_want (by rfl) (fun K hK => ?_)
    refine quiet_value (.agg #[.int .i64 a, .slice A l.length c]) (fun W hW => ?_) (hK _ ?_)
    · clear hK
      have q0 := hW.cell cPa0_6
      have q1 := hW.cell cPa1_6
      clear hW
      go_simp
    clear hK K
    simp only [Act.put, List.setIfInBounds_toArray, List.set_cons_zero, List.set_cons_succ]
    refine BigFrame.wpQuiet_want (by rfl) (fun K hK => ?_)
    refine quiet_call 11 #[.agg #[.int .i64 a, .slice Au l.length cu], .agg #[.int .i64 a, .slice A l.length c]] (.bool true) (fun W => ?_) (fun W hW => ?_) (hK _ ?_)
    · clear hK
      go_simp
    · refine (((show (a == a && decide (l = l)) = true by simp) ▸ (bSame_calls a a l l Au A cu c W6.heap.size W (HXu.out.r.below hW) ((Ha_6.out.r.more HBB_6.out).below hW) hW.size LA.out) : Calls Tryd.prog _ _ W fun e w' => e = .returned (.bool true) ∧ Below W.heap.size W w')).mono ?_
      rintro e w' ⟨rfl, hb⟩
      exact ⟨rfl, hW.trans hb⟩
    clear hK K
    simp only [Act.put, List.setIfInBounds_toArray, List.set_cons_zero, List.set_cons_succ]
    refine BigFrame.wpQuiet_want (by rfl) (fun K hK => ?_)
    refine quiet_value (.bool false) (fun W hW => ?_) (hK _ ?_)
    · clear hK
      clear hW
      go_simp
    clear hK K
    simp only [Act.put, List.setIfInBounds_toArray, List.set_cons_zero, List.set_cons_succ]
    refine BigFrame.wpQuiet_want (by rfl) (fun K hK => ?_)
    refine quiet_value (.bool false) (fun W hW => ?_) (hK _ ?_)
    · clear hK
      clear hW
      go_simp
    clear hK K
    simp only [Act.put, List.setIfInBounds_toArray, List.set_cons_zero, List.set_cons_succ]
    refine BigFrame.wpQuiet_want (by rfl) (fun K hK => ?_)
    refine quiet_value (.bool false) (fun W hW => ?_) (hK _ ?_)
    · clear hK
      clear hW
      go_simp
    clear hK K
    simp only [Act.put, List.setIfInBounds_toArray, List.set_cons_zero, List.set_cons_succ]
    refine BigFrame.wpQuiet_want (by rfl) (fun K hK => ?_)
    refine quiet_value (.agg #[.int .i64 a, .slice Au l.length cu]) (fun W hW => ?_) (hK _ ?_)
    · clear hK
      have q0 := hW.cell cPu0_6
      have q1 := hW.cell cPu1_6
      clear hW
      go_simp
    clear hK K
    simp only [Act.put, List.setIfInBounds_toArray, List.set_cons_zero, List.set_cons_succ]
    refine BigFrame.wpQuiet_want (by rfl) (fun K hK => ?_)
    refine quiet_value (.agg #[.int .i64 a, .slice A l.length c]) (fun W hW => ?_) (hK _ ?_)
    · clear hK
      have q0 := hW.cell cPa0_6
      have q1 := hW.cell cPa1_6
      clear hW
      go_simp
    clear hK K
    simp only [Act.put, List.setIfInBounds_toArray, List.set_cons_zero, List.set_cons_succ]
    refine BigFrame.wpQuiet_want (by rfl) (fun K hK => ?_)
    refine quiet_call 12 #[.agg #[.int .i64 a, .slice Au l.length cu], .agg #[.int .i64 a, .slice A l.length c]] (.bool true) (fun W => ?_) (fun W hW => ?_) (hK _ ?_)
    · clear hK
      go_simp
    · refine (((show (a == a && decide (l = l)) = true by simp) ▸ (samePos_calls a a l l Au A cu c W6.heap.size W (HXu.out.r.below hW) ((Ha_6.out.r.more HBB_6.out).below hW) hW.size LA.out) : Calls Tryd.prog _ _ W fun e w' => e = .returned (.bool true) ∧ Below W.heap.size W w')).mono ?_
      rintro e w' ⟨rfl, hb⟩
      exact ⟨rfl, hW.trans hb⟩
    clear hK K
    simp only [Act.put, List.setIfInBounds_toArray, List.set_cons_zero, List.set_cons_succ]
    refine BigFrame.wpQuiet_want (by rfl) (fun K hK => ?_)
    refine quiet_value (.bool false) (fun W hW => ?_) (hK _ ?_)
    · clear hK
      clear hW
      go_simp
    clear hK K
    simp only [Act.put, List.setIfInBounds_toArray, List.set_cons_zero, List.set_cons_succ]
    refine BigFrame.wpQuiet_want (by rfl) (fun K hK => ?_)
    refine quiet_value (.bool false) (fun W hW => ?_) (hK _ ?_)
    · clear hK
      clear hW
      go_simp
    clear hK K
    simp only [Act.put, List.setIfInBounds_toArray, List.set_cons_zero, List.set_cons_succ]
    refine BigFrame.wpQuiet_want (by rfl) (fun K hK => ?_)
    refine quiet_value (.bool false) (fun W hW => ?_) (hK _ ?_)
    · clear hK
      clear hW
      go_simp
    clear hK K
    simp only [Act.put, List.setIfInBounds_toArray, List.set_cons_zero, List.set_cons_succ]
    refine BigFrame.wpQuiet_want (by rfl) (fun K hK => ?_)
    refine quiet_value (.agg #[.int .i64 a1, .slice Am L1.length cm]) (fun W hW => ?_) (hK _ ?_)
    · clear hK
      have q0 := hW.cell cPm0_6
      have q1 := hW.cell cPm1_6
      clear hW
      go_simp
    clear hK K
    simp only [Act.put, List.setIfInBounds_toArray, List.set_cons_zero, List.set_cons_succ]
    refine BigFrame.wpQuiet_want (by rfl) (fun K hK => ?_)
    refine quiet_call 18 #[.agg #[.int .i64 a1, .slice Am L1.length cm]] (.int .i64 tp0) (fun W => ?_) (fun W hW => ?_) (hK _ ?_)
    · clear hK
      go_simp
    · refine ((TM.out ▸ (totalX_calls a1 L1 Am cm W6.heap.size W (HXm.out.below hW) hW.size) : Calls Tryd.prog _ _ W fun e w' => e = .returned (.int .i64 tp0) ∧ Below W.heap.size W w')).mono ?_
      rintro e w' ⟨rfl, hb⟩
      exact ⟨rfl, hW.trans hb⟩
    clear hK K
    simp only [Act.put, List.setIfInBounds_toArray, List.set_cons_zero, List.set_cons_succ]
    refine BigFrame.wpQuiet_want (by rfl) (fun K hK => ?_)
    refine quiet_value (.agg #[.int .i64 a, .slice A l.length c]) (fun W hW => ?_) (hK _ ?_)
    · clear hK
      have q0 := hW.cell cPa0_6
      have q1 := hW.cell cPa1_6
      clear hW
      go_simp
    clear hK K
    simp only [Act.put, List.setIfInBounds_toArray, List.set_cons_zero, List.set_cons_succ]
    refine BigFrame.wpQuiet_want (by rfl) (fun K hK => ?_)
    refine quiet_call 18 #[.agg #[.int .i64 a, .slice A l.length c]] (.int .i64 tp0) (fun W => ?_) (fun W hW => ?_) (hK _ ?_)
    · clear hK
      go_simp
    · refine ((TA.out ▸ (totalX_calls a l A c B W (Ha_6.out.below (hW.mono HBB_6.out)) (Nat.le_trans HBB_6.out hW.size)) : Calls Tryd.prog _ _ W fun e w' => e = .returned (.int .i64 tp0) ∧ Below W.heap.size W w')).mono ?_
      rintro e w' ⟨rfl, hb⟩
      exact ⟨rfl, hW.trans hb⟩
    clear hK K
    simp only [Act.put, List.setIfInBounds_toArray, List.set_cons_zero, List.set_cons_succ]
    refine BigFrame.wpQuiet_want (by rfl) (fun K hK => ?_)
    refine quiet_value (.bool false) (fun W hW => ?_) (hK _ ?_)
    · clear hK
      clear hW
      go_simp
    clear hK K
    simp only [Act.put, List.setIfInBounds_toArray, List.set_cons_zero, List.set_cons_succ]
    refine BigFrame.wpQuiet_want (by rfl) (fun K hK => ?_)
    refine quiet_value (.bool false) (fun W hW => ?_) (hK _ ?_)
    · clear hK
      clear hW
      go_simp
    clear hK K
    simp only [Act.put, List.setIfInBounds_toArray, List.set_cons_zero, List.set_cons_succ]
    refine wpQuiet_nil ?_
    intro WR hiWR
    clear hW6 hgu cPa0_6 cPa1_6 cPm0_6 cPm1_6 cPu0_6 cPu1_6
    clear HXm HXu LA TA TM
    have Ha_7 := Lib.hid (Ha_6.out.below (hiWR.mono HBB_6.out))
    have HBB_7 : Hid (B ≤ WR.heap.size) := Lib.hid (Nat.le_trans HBB_6.out hiWR.size)
    have HG_7 := Lib.hid (HG_6.out.below hiWR)
    have HB_7 := Lib.hid (HB_6.out.trans (hiWR.mono HB_6.out.size))
    have Pa_7 := Lib.hid (Pa_6.out.below hiWR Pa_6.out.lt)
    have Mm_7 := Lib.hid (Mm_6.out.below hiWR)
    have Pm_7 := Lib.hid (Pm_6.out.below hiWR Pm_6.out.lt)
    have Mu_7 := Lib.hid (Mu_6.out.below hiWR)
    have Pu_7 := Lib.hid (Pu_6.out.below hiWR Pu_6.out.lt)
    clear hiWR
    have cPa0_7 : WR.cell? ⟨ga, 0, none⟩ = some (.int .i64 a) := Pa_7.out.cell 0
    have cPa1_7 : WR.cell? ⟨ga, 1, none⟩ = some (.slice A l.length c) := Pa_7.out.cell 1
    go_wp2_with (fail)
    refine (credit_calls a l A c B q WR Ha_7.out HBB_7.out HG_7.out hq).mono ?_
    rintro e w8 hres
    obtain ⟨hbw8, Ac, cc, evc, rfl, hmc, hevc⟩ := hres.cases_
    clear hres
    clear cPa0_7 cPa1_7
    have Ha_8 := Lib.hid (Ha_7.out.below (hbw8.mono HBB_7.out))
    have HBB_8 : Hid (B ≤ w8.heap.size) := Lib.hid (Nat.le_trans HBB_7.out hbw8.size)
    have HG_8 := Lib.hid (HG_7.out.below hbw8)
    have HB_8 := Lib.hid (HB_7.out.trans (hbw8.mono HB_7.out.size))
    have Pa_8 := Lib.hid (Pa_7.out.below hbw8 Pa_7.out.lt)
    have Mm_8 := Lib.hid (Mm_7.out.below hbw8)
    have Pm_8 := Lib.hid (Pm_7.out.below hbw8 Pm_7.out.lt)
    have Mu_8 := Lib.hid (Mu_7.out.below hbw8)
    have Pu_8 := Lib.hid (Pu_7.out.below hbw8 Pu_7.out.lt)
    clear hbw8
    rcases hevc with ⟨hzc, rfl⟩ | ⟨hzc, tc, vc, rfl⟩
    · obtain ⟨hrt, hq1, hsm, heq⟩ := credit_zero (l := l) (q := q) (show a ≤ MaxA from HA1.out) hzc
      have hbk := back_credit (l := l) (q := q) (show a ≤ MaxA from HA1.out) hzc
      have hrc := credit_right hrt hq1 hsm
      have htp := right_total hrt
      have hsq := sumQ_nonneg hrt.q
      have ha0 := hrt.a0
      unfold MaxA at hsm
      obtain ⟨a2, ha2⟩ : ∃ x, a + q = x := ⟨_, rfl⟩
      obtain ⟨tp, htp2⟩ : ∃ x, totalS a l = x := ⟨_, rfl⟩
      rw [ha2] at heq hbk hrc
      rw [htp2] at htp hbk
      have HRC := Lib.hid hrc
      have HRT2 := Lib.hid hrt
      have HBC := Lib.hid hbk.1
      have TC := Lib.hid hbk.2
      have TA := Lib.hid htp2
      have hwt : IntKind.i64.wrap (tp + q) = tp + q := IntWalk.i64_in _ (by omega)
      clear hbk hrc hrt ha2 htp htp2 hsq ha0 hsm
      have HEQc := Lib.hid heq
      rw [heq] at hmc ⊢
      dsimp only at hmc ⊢
      clear heq hzc
      have Mc_8 := Lib.hid (hmc)
      clear hmc
      obtain ⟨gc, hgc⟩ : ∃ g, w8.heap.size = g := ⟨_, rfl⟩
      obtain ⟨W9, hW9⟩ : ∃ X, w8.alloc (.cells #[.int .i64 a2, .slice Ac l.length cc] 24) = X := ⟨_, rfl⟩
      have hbW9 : Below w8.heap.size w8 W9 := hW9 ▸ (Below.refl _ _).alloc (Nat.le_refl _) _
      have hnc : Blk W9 gc 24 #[.int .i64 a2, .slice Ac l.length cc] := by rw [← hW9]; exact blkNew hgc
      have Ha_9 := Lib.hid (Ha_8.out.below (hbW9.mono HBB_8.out))
      have HBB_9 : Hid (B ≤ W9.heap.size) := Lib.hid (Nat.le_trans HBB_8.out hbW9.size)
      have HG_9 := Lib.hid (HG_8.out.below hbW9)
      have HB_9 := Lib.hid (HB_8.out.trans (hbW9.mono HB_8.out.size))
      have Pa_9 := Lib.hid (Pa_8.out.below hbW9 Pa_8.out.lt)
      have Mm_9 := Lib.hid (Mm_8.out.below hbW9)
      have Pm_9 := Lib.hid (Pm_8.out.below hbW9 Pm_8.out.lt)
      have Mu_9 := Lib.hid (Mu_8.out.below hbW9)
      have Pu_9 := Lib.hid (Pu_8.out.below hbW9 Pu_8.out.lt)
      have Mc_9 := Lib.hid (Mc_8.out.below hbW9)
      have Pc_9 := Lib.hid (hnc)
      clear hbW9 hnc
      have cPa0_9 : W9.cell? ⟨ga, 0, none⟩ = some (.int .i64 a) := Pa_9.out.cell 0
      have cPa1_9 : W9.cell? ⟨ga, 1, none⟩ = some (.slice A l.length c) := Pa_9.out.cell 1
      have cPc0_9 : W9.cell? ⟨gc, 0, none⟩ = some (.int .i64 a2) := Pc_9.out.cell 0
      have cPc1_9 : W9.cell? ⟨gc, 1, none⟩ = some (.slice Ac l.length cc) := Pc_9.out.cell 1
      have HXc := Lib.hid (PosOK.right Mc_9.out HRC.out)
      go_wp2_with (fail)
      refine (debit_calls a2 l Ac cc W9.heap.size q 0 W9 HXc.out (Nat.le_refl _) HG_9.out hq).mono ?_
      rintro e w10 hres
      rw [HBC.out] at hres
      obtain ⟨hbw10, Ad, cd, evd, rfl, hmd, hevd⟩ := hres.cases_
      clear hres HXc
      obtain rfl : evd = .nilIface := by
        rcases hevd with ⟨_, h⟩ | ⟨h, _⟩
        · exact h
        · exact absurd rfl h
      dsimp only at hmd ⊢
      clear hevd
      clear hW9 hgc cPa0_9 cPa1_9 cPc0_9 cPc1_9
      have Ha_10 := Lib.hid (Ha_9.out.below (hbw10.mono HBB_9.out))
      have HBB_10 : Hid (B ≤ w10.heap.size) := Lib.hid (Nat.le_trans HBB_9.out hbw10.size)
      have HG_10 := Lib.hid (HG_9.out.below hbw10)
      have HB_10 := Lib.hid (HB_9.out.trans (hbw10.mono HB_9.out.size))
      have Pa_10 := Lib.hid (Pa_9.out.below hbw10 Pa_9.out.lt)
      have Mm_10 := Lib.hid (Mm_9.out.below hbw10)
      have Pm_10 := Lib.hid (Pm_9.out.below hbw10 Pm_9.out.lt)
      have Mu_10 := Lib.hid (Mu_9.out.below hbw10)
      have Pu_10 := Lib.hid (Pu_9.out.below hbw10 Pu_9.out.lt)
      have Mc_10 := Lib.hid (Mc_9.out.below hbw10)
      have Pc_10 := Lib.hid (Pc_9.out.below hbw10 Pc_9.out.lt)
      clear hbw10
      have Md_10 := Lib.hid (hmd)
      clear hmd
      obtain ⟨gd, hgd⟩ : ∃ g, w10.heap.size = g := ⟨_, rfl⟩
      obtain ⟨W11, hW11⟩ : ∃ X, w10.alloc (.cells #[.int .i64 a, .slice Ad l.length cd] 24) = X := ⟨_, rfl⟩
      have hbW11 : Below w10.heap.size w10 W11 := hW11 ▸ (Below.refl _ _).alloc (Nat.le_refl _) _
      have hnd : Blk W11 gd 24 #[.int .i64 a, .slice Ad l.length cd] := by rw [← hW11]; exact blkNew hgd
      have Ha_11 := Lib.hid (Ha_10.out.below (hbW11.mono HBB_10.out))
      have HBB_11 : Hid (B ≤ W11.heap.size) := Lib.hid (Nat.le_trans HBB_10.out hbW11.size)
      have HG_11 := Lib.hid (HG_10.out.below hbW11)
      have HB_11 := Lib.hid (HB_10.out.trans (hbW11.mono HB_10.out.size))
      have Pa_11 := Lib.hid (Pa_10.out.below hbW11 Pa_10.out.lt)
      have Mm_11 := Lib.hid (Mm_10.out.below hbW11)
      have Pm_11 := Lib.hid (Pm_10.out.below hbW11 Pm_10.out.lt)
      have Mu_11 := Lib.hid (Mu_10.out.below hbW11)
      have Pu_11 := Lib.hid (Pu_10.out.below hbW11 Pu_10.out.lt)
      have Mc_11 := Lib.hid (Mc_10.out.below hbW11)
      have Pc_11 := Lib.hid (Pc_10.out.below hbW11 Pc_10.out.lt)
      have Md_11 := Lib.hid (Md_10.out.below hbW11)
      have Pd_11 := Lib.hid (hnd)
      clear hbW11 hnd
      have cPa0_11 : W11.cell? ⟨ga, 0, none⟩ = some (.int .i64 a) := Pa_11.out.cell 0
      have cPa1_11 : W11.cell? ⟨ga, 1, none⟩ = some (.slice A l.length c) := Pa_11.out.cell 1
      have cPc0_11 : W11.cell? ⟨gc, 0, none⟩ = some (.int .i64 a2) := Pc_11.out.cell 0
      have cPc1_11 : W11.cell? ⟨gc, 1, none⟩ = some (.slice Ac l.length cc) := Pc_11.out.cell 1
      have cPd0_11 : W11.cell? ⟨gd, 0, none⟩ = some (.int .i64 a) := Pd_11.out.cell 0
      have cPd1_11 : W11.cell? ⟨gd, 1, none⟩ = some (.slice Ad l.length cd) := Pd_11.out.cell 1
      have HXc := Lib.hid (PosOK.right Mc_11.out HRC.out)
      have HXd := Lib.hid (PosOK.right Md_11.out HRT2.out)
      have LA := Lib.hid (show l.length * 16 ≤ 140737488351232 by have := HRT2.out.len; omega)
      go_wp2_with (fail)
      refine wp_region_class (InB W11) (by kernel_rfl) (by kernel_rfl) (InB.start _) ?_
      refine BigFrame.wpQuiet_want (by rfl) (fun K hK => ?_)
      refine quiet_value (.nilIface) (fun W hW => ?_) (hK _ ?_)
      · clear hK
        clear hW
        go_simp
      clear hK K
      simp only [Act.put, List.setIfInBounds_toArray, List.set_cons_zero, List.set_cons_succ]
      refine BigFrame.wpQuiet_want (by rfl) (fun K hK => ?_)
      refine quiet_value (.bool true) (fun W hW => ?_) (hK _ ?_)
      · clear hK
        clear hW
        go_simp
      clear hK K
      simp only [Act.put, List.setIfInBounds_toArray, List.set_cons_zero, List.set_cons_succ]
      refine BigFrame.wpQuiet_want (by rfl) (fun K hK => ?_)
      refine quiet_value (.bool true) (fun W hW => ?_) (hK _ ?_)
      · clear hK
        clear hW
        go_simp
      clear hK K
      simp only [Act.put, List.setIfInBounds_toArray, List.set_cons_zero, List.set_cons_succ]
      refine BigFrame.wpQuiet_want (by rfl) (fun K hK => ?_)
      refine quiet_value (.agg #[.int .i64 a, .slice Ad l.length cd]) (fun W hW => ?_) (hK _ ?_)
      · clear hK
        have q0 := hW.cell cPd0_11
        have q1 := hW.cell cPd1_11
        clear hW
        go_simp
      clear hK K
      simp only [Act.put, List.setIfInBounds_toArray, List.set_cons_zero, List.set_cons_succ]
      refine BigFrame.wpQuiet_want (by rfl) (fun K hK => ?_)
      refine quiet_value (.agg #[.int .i64 a, .slice A l.length c]) (fun W hW => ?_) (hK _ ?_)
      · clear hK
        have q0 := hW.cell cPa0_11
        have q1 := hW.cell cPa1_11
        clear hW
        go_simp
      clear hK K
      simp only [Act.put, List.setIfInBounds_toArray, List.set_cons_zero, List.set_cons_succ]
      refine BigFrame.wpQuiet_want (by rfl) (fun K hK => ?_)
      refine quiet_call 12 #[.agg #[.int .i64 a, .slice Ad l.length cd], .agg #[.int .i64 a, .slice A l.length c]] (.bool true) (fun W => ?_) (fun W hW => ?_) (hK _ ?_)
      · clear hK
        go_simp
      · refine (((show (a == a && decide (l = l)) = true by simp) ▸ (samePos_calls a a l l Ad A cd c W11.heap.size W (HXd.out.r.below hW) ((Ha_11.out.r.more HBB_11.out).below hW) hW.size LA.out) : Calls Tryd.prog _ _ W fun e w' => e = .returned (.bool true) ∧ Below W.heap.size W w')).mono ?_
        rintro e w' ⟨rfl, hb⟩
        exact ⟨rfl, hW.trans hb⟩
      clear hK K
      simp only [Act.put, List.setIfInBounds_toArray, List.set_cons_zero, List.set_cons_succ]
      refine BigFrame.wpQuiet_want (by rfl) (fun K hK => ?_)
      refine quiet_value (.bool true) (fun W hW => ?_) (hK _ ?_)
      · clear hK
        clear hW
        go_simp
      clear hK K
      simp only [Act.put, List.setIfInBounds_toArray, List.set_cons_zero, List.set_cons_succ]
      refine BigFrame.wpQuiet_want (by rfl) (fun K hK => ?_)
      refine quiet_value (.bool true) (fun W hW => ?_) (hK _ ?_)
      · clear hK
        clear hW
        go_simp
      clear hK K
      simp only [Act.put, List.setIfInBounds_toArray, List.set_cons_zero, List.set_cons_succ]
      refine BigFrame.wpQuiet_want (by rfl) (fun K hK => ?_)
      refine quiet_value (.agg #[.int .i64 a2, .slice Ac l.length cc]) (fun W hW => ?_) (hK _ ?_)
      · clear hK
        have q0 := hW.cell cPc0_11
        have q1 := hW.cell cPc1_11
        clear hW
        go_simp
      clear hK K
      simp only [Act.put, List.setIfInBounds_toArray, List.set_cons_zero, List.set_cons_succ]
      refine BigFrame.wpQuiet_want (by rfl) (fun K hK => ?_)
      refine quiet_call 18 #[.agg #[.int .i64 a2, .slice Ac l.length cc]] (.int .i64 (tp + q)) (fun W => ?_) (fun W hW => ?_) (hK _ ?_)
      · clear hK
        go_simp
      · refine ((TC.out ▸ (totalX_calls a2 l Ac cc W11.heap.size W (HXc.out.below hW) hW.size) : Calls Tryd.prog _ _ W fun e w' => e = .returned (.int .i64 (tp + q)) ∧ Below W.heap.size W w')).mono ?_
        rintro e w' ⟨rfl, hb⟩
        exact ⟨rfl, hW.trans hb⟩
      clear hK K
      simp only [Act.put, List.setIfInBounds_toArray, List.set_cons_zero, List.set_cons_succ]
      refine BigFrame.wpQuiet_want (by rfl) (fun K hK => ?_)
      refine quiet_value (.agg #[.int .i64 a, .slice A l.length c]) (fun W hW => ?_) (hK _ ?_)
      · clear hK
        have q0 := hW.cell cPa0_11
        have q1 := hW.cell cPa1_11
        clear hW
        go_simp
      clear hK K
      simp only [Act.put, List.setIfInBounds_toArray, List.set_cons_zero, List.set_cons_succ]
      refine BigFrame.wpQuiet_want (by rfl) (fun K hK => ?_)
      refine quiet_call 18 #[.agg #[.int .i64 a, .slice A l.length c]] (.int .i64 tp) (fun W => ?_) (fun W hW => ?_) (hK _ ?_)
      · clear hK
        go_simp
      · refine ((TA.out ▸ (totalX_calls a l A c B W (Ha_11.out.below (hW.mono HBB_11.out)) (Nat.le_trans HBB_11.out hW.size)) : Calls Tryd.prog _ _ W fun e w' => e = .returned (.int .i64 tp) ∧ Below W.heap.size W w')).mono ?_
        rintro e w' ⟨rfl, hb⟩
        exact ⟨rfl, hW.trans hb⟩
      clear hK K
      simp only [Act.put, List.setIfInBounds_toArray, List.set_cons_zero, List.set_cons_succ]
      refine BigFrame.wpQuiet_want (by rfl) (fun K hK => ?_)
      refine quiet_value (.int .i64 q) (fun W hW => ?_) (hK _ ?_)
      · clear hK
        clear hW
        go_simp
      clear hK K
      simp only [Act.put, List.setIfInBounds_toArray, List.set_cons_zero, List.set_cons_succ]
      refine BigFrame.wpQuiet_want (by rfl) (fun K hK => ?_)
      refine quiet_value (.int .i64 (tp + q)) (fun W hW => ?_) (hK _ ?_)
      · clear hK
        clear hW
        go_simp
      clear hK K
      simp only [Act.put, List.setIfInBounds_toArray, List.set_cons_zero, List.set_cons_succ]
      refine BigFrame.wpQuiet_want (by rfl) (fun K hK => ?_)
      refine quiet_value (.bool true) (fun W hW => ?_) (hK _ ?_)
      · clear hK
        clear hW
        go_simp
      clear hK K
      simp only [Act.put, List.setIfInBounds_toArray, List.set_cons_zero, List.set_cons_succ]
      refine BigFrame.wpQuiet_want (by rfl) (fun K hK => ?_)
      refine quiet_value (.bool true) (fun W hW => ?_) (hK _ ?_)
      · clear hK
        clear hW
        go_simp
      clear hK K
      simp only [Act.put, List.setIfInBounds_toArray, List.set_cons_zero, List.set_cons_succ]
      refine BigFrame.wpQuiet_want (by rfl) (fun K hK => ?_)
      refine quiet_value (.bool true) (fun W hW => ?_) (hK _ ?_)
      · clear hK
        clear hW
        go_simp
      clear hK K
      simp only [Act.put, List.setIfInBounds_toArray, List.set_cons_zero, List.set_cons_succ]
      refine wpQuiet_nil ?_
      intro WE hiWE
      clear hW11 hgd cPa0_11 cPa1_11 cPc0_11 cPc1_11 cPd0_11 cPd1_11
      have Ha_12 := Lib.hid (Ha_11.out.below (hiWE.mono HBB_11.out))
      have HBB_12 : Hid (B ≤ WE.heap.size) := Lib.hid (Nat.le_trans HBB_11.out hiWE.size)
      have HG_12 := Lib.hid (HG_11.out.below hiWE)
      have HB_12 := Lib.hid (HB_11.out.trans (hiWE.mono HB_11.out.size))
      have Pa_12 := Lib.hid (Pa_11.out.below hiWE Pa_11.out.lt)
      have Mm_12 := Lib.hid (Mm_11.out.below hiWE)
      have Pm_12 := Lib.hid (Pm_11.out.below hiWE Pm_11.out.lt)
      have Mu_12 := Lib.hid (Mu_11.out.below hiWE)
      have Pu_12 := Lib.hid (Pu_11.out.below hiWE Pu_11.out.lt)
      have Mc_12 := Lib.hid (Mc_11.out.below hiWE)
      have Pc_12 := Lib.hid (Pc_11.out.below hiWE Pc_11.out.lt)
      have Md_12 := Lib.hid (Md_11.out.below hiWE)
      have Pd_12 := Lib.hid (Pd_11.out.below hiWE Pd_11.out.lt)
      go_wp2_with (fail)
      go_ret
      exact ⟨rfl, HB_12.out⟩
    · obtain ⟨rc, hrc⟩ : ∃ r, creditS a l q = r := ⟨_, rfl⟩
      rw [hrc] at hmc hzc ⊢
      obtain ⟨rec, rpc, rac, rlc⟩ := rc
      dsimp only at hmc hzc ⊢
      have HZc := Lib.hid hzc
      have HRRc := Lib.hid hrc
      clear hzc hrc
      have Mc_8 := Lib.hid (hmc)
      clear hmc
      obtain ⟨gc, hgc⟩ : ∃ g, w8.heap.size = g := ⟨_, rfl⟩
      obtain ⟨W9, hW9⟩ : ∃ X, w8.alloc (.cells #[.int .i64 rac, .slice Ac rlc.length cc] 24) = X := ⟨_, rfl⟩
      have hbW9 : Below w8.heap.size w8 W9 := hW9 ▸ (Below.refl _ _).alloc (Nat.le_refl _) _
      have hnc : Blk W9 gc 24 #[.int .i64 rac, .slice Ac rlc.length cc] := by rw [← hW9]; exact blkNew hgc
      have Ha_9 := Lib.hid (Ha_8.out.below (hbW9.mono HBB_8.out))
      have HBB_9 : Hid (B ≤ W9.heap.size) := Lib.hid (Nat.le_trans HBB_8.out hbW9.size)
      have HG_9 := Lib.hid (HG_8.out.below hbW9)
      have HB_9 := Lib.hid (HB_8.out.trans (hbW9.mono HB_8.out.size))
      have Pa_9 := Lib.hid (Pa_8.out.below hbW9 Pa_8.out.lt)
      have Mm_9 := Lib.hid (Mm_8.out.below hbW9)
      have Pm_9 := Lib.hid (Pm_8.out.below hbW9 Pm_8.out.lt)
      have Mu_9 := Lib.hid (Mu_8.out.below hbW9)
      have Pu_9 := Lib.hid (Pu_8.out.below hbW9 Pu_8.out.lt)
      have Mc_9 := Lib.hid (Mc_8.out.below hbW9)
      have Pc_9 := Lib.hid (hnc)
      clear hbW9 hnc
      go_wp2_with (fail)
      go_ret
      exact ⟨rfl, HB_9.out⟩
  · obtain ⟨rm, hrm⟩ : ∃ r, markS a l q n = r := ⟨_, rfl⟩
    rw [hrm] at hmm hzm ⊢
    obtain ⟨rem, rpm, ram, rlm⟩ := rm
    dsimp only at hmm hzm ⊢
    have HZm := Lib.hid hzm
    have HRRm := Lib.hid hrm
    clear hzm hrm
    have Mm_3 := Lib.hid (hmm)
    clear hmm
    obtain ⟨gm, hgm⟩ : ∃ g, w3.heap.size = g := ⟨_, rfl⟩
    obtain ⟨W4, hW4⟩ : ∃ X, w3.alloc (.cells #[.int .i64 ram, .slice Am rlm.length cm] 24) = X := ⟨_, rfl⟩
    have hbW4 : Below w3.heap.size w3 W4 := hW4 ▸ (Below.refl _ _).alloc (Nat.le_refl _) _
    have hnm : Blk W4 gm 24 #[.int .i64 ram, .slice Am rlm.length cm] := by rw [← hW4]; exact blkNew hgm
    have Ha_4 := Lib.hid (Ha_3.out.below (hbW4.mono HBB_3.out))
    have HBB_4 : Hid (B ≤ W4.heap.size) := Lib.hid (Nat.le_trans HBB_3.out hbW4.size)
    have HG_4 := Lib.hid (HG_3.out.below hbW4)
    have HB_4 := Lib.hid (HB_3.out.trans (hbW4.mono HB_3.out.size))
    have Pa_4 := Lib.hid (Pa_3.out.below hbW4 Pa_3.out.lt)
    have Mm_4 := Lib.hid (Mm_3.out.below hbW4)
    have Pm_4 := Lib.hid (hnm)
    clear hbW4 hnm
    have cPa0_4 : W4.cell? ⟨ga, 0, none⟩ = some (.int .i64 a) := Pa_4.out.cell 0
    have cPa1_4 : W4.cell? ⟨ga, 1, none⟩ = some (.slice A l.length c) := Pa_4.out.cell 1
    go_wp2_with (fail)
    refine (credit_calls a l A c B q W4 Ha_4.out HBB_4.out HG_4.out hq).mono ?_
    rintro e w5 hres
    obtain ⟨hbw5, Ac, cc, evc, rfl, hmc, hevc⟩ := hres.cases_
    clear hres
    clear hW4 hgm cPa0_4 cPa1_4
    have Ha_5 := Lib.hid (Ha_4.out.below (hbw5.mono HBB_4.out))
    have HBB_5 : Hid (B ≤ w5.heap.size) := Lib.hid (Nat.le_trans HBB_4.out hbw5.size)
    have HG_5 := Lib.hid (HG_4.out.below hbw5)
    have HB_5 := Lib.hid (HB_4.out.trans (hbw5.mono HB_4.out.size))
    have Pa_5 := Lib.hid (Pa_4.out.below hbw5 Pa_4.out.lt)
    have Mm_5 := Lib.hid (Mm_4.out.below hbw5)
    have Pm_5 := Lib.hid (Pm_4.out.below hbw5 Pm_4.out.lt)
    clear hbw5
    rcases hevc with ⟨hzc, rfl⟩ | ⟨hzc, tc, vc, rfl⟩
    · obtain ⟨hrt, hq1, hsm, heq⟩ := credit_zero (l := l) (q := q) (show a ≤ MaxA from HA1.out) hzc
      have hbk := back_credit (l := l) (q := q) (show a ≤ MaxA from HA1.out) hzc
      have hrc := credit_right hrt hq1 hsm
      have htp := right_total hrt
      have hsq := sumQ_nonneg hrt.q
      have ha0 := hrt.a0
      unfold MaxA at hsm
      obtain ⟨a2, ha2⟩ : ∃ x, a + q = x := ⟨_, rfl⟩
      obtain ⟨tp, htp2⟩ : ∃ x, totalS a l = x := ⟨_, rfl⟩
      rw [ha2] at heq hbk hrc
      rw [htp2] at htp hbk
      have HRC := Lib.hid hrc
      have HRT2 := Lib.hid hrt
      have HBC := Lib.hid hbk.1
      have TC := Lib.hid hbk.2
      have TA := Lib.hid htp2
      have hwt : IntKind.i64.wrap (tp + q) = tp + q := IntWalk.i64_in _ (by omega)
      clear hbk hrc hrt ha2 htp htp2 hsq ha0 hsm
      have HEQc := Lib.hid heq
      rw [heq] at hmc ⊢
      dsimp only at hmc ⊢
      clear heq hzc
      have Mc_5 := Lib.hid (hmc)
      clear hmc
      obtain ⟨gc, hgc⟩ : ∃ g, w5.heap.size = g := ⟨_, rfl⟩
      obtain ⟨W6, hW6⟩ : ∃ X, w5.alloc (.cells #[.int .i64 a2, .slice Ac l.length cc] 24) = X := ⟨_, rfl⟩
      have hbW6 : Below w5.heap.size w5 W6 := hW6 ▸ (Below.refl _ _).alloc (Nat.le_refl _) _
      have hnc : Blk W6 gc 24 #[.int .i64 a2, .slice Ac l.length cc] := by rw [← hW6]; exact blkNew hgc
      have Ha_6 := Lib.hid (Ha_5.out.below (hbW6.mono HBB_5.out))
      have HBB_6 : Hid (B ≤ W6.heap.size) := Lib.hid (Nat.le_trans HBB_5.out hbW6.size)
      have HG_6 := Lib.hid (HG_5.out.below hbW6)
      have HB_6 := Lib.hid (HB_5.out.trans (hbW6.mono HB_5.out.size))
      have Pa_6 := Lib.hid (Pa_5.out.below hbW6 Pa_5.out.lt)
      have Mm_6 := Lib.hid (Mm_5.out.below hbW6)
      have Pm_6 := Lib.hid (Pm_5.out.below hbW6 Pm_5.out.lt)
      have Mc_6 := Lib.hid (Mc_5.out.below hbW6)
      have Pc_6 := Lib.hid (hnc)
      clear hbW6 hnc
      have cPa0_6 : W6.cell? ⟨ga, 0, none⟩ = some (.int .i64 a) := Pa_6.out.cell 0
      have cPa1_6 : W6.cell? ⟨ga, 1, none⟩ = some (.slice A l.length c) := Pa_6.out.cell 1
      have cPc0_6 : W6.cell? ⟨gc, 0, none⟩ = some (.int .i64 a2) := Pc_6.out.cell 0
      have cPc1_6 : W6.cell? ⟨gc, 1, none⟩ = some (.slice Ac l.length cc) := Pc_6.out.cell 1
      have HXc := Lib.hid (PosOK.right Mc_6.out HRC.out)
      go_wp2_with (fail)
      refine (debit_calls a2 l Ac cc W6.heap.size q 0 W6 HXc.out (Nat.le_refl _) HG_6.out hq).mono ?_
      rintro e w7 hres
      rw [HBC.out] at hres
      obtain ⟨hbw7, Ad, cd, evd, rfl, hmd, hevd⟩ := hres.cases_
      clear hres HXc
      obtain rfl : evd = .nilIface := by
        rcases hevd with ⟨_, h⟩ | ⟨h, _⟩
        · exact h
        · exact absurd rfl h
      dsimp only at hmd ⊢
      clear hevd
      clear hW6 hgc cPa0_6 cPa1_6 cPc0_6 cPc1_6
      have Ha_7 := Lib.hid (Ha_6.out.below (hbw7.mono HBB_6.out))
      have HBB_7 : Hid (B ≤ w7.heap.size) := Lib.hid (Nat.le_trans HBB_6.out hbw7.size)
      have HG_7 := Lib.hid (HG_6.out.below hbw7)
      have HB_7 := Lib.hid (HB_6.out.trans (hbw7.mono HB_6.out.size))
      have Pa_7 := Lib.hid (Pa_6.out.below hbw7 Pa_6.out.lt)
      have Mm_7 := Lib.hid (Mm_6.out.below hbw7)
      have Pm_7 := Lib.hid (Pm_6.out.below hbw7 Pm_6.out.lt)
      have Mc_7 := Lib.hid (Mc_6.out.below hbw7)
      have Pc_7 := Lib.hid (Pc_6.out.below hbw7 Pc_6.out.lt)
      clear hbw7
      have Md_7 := Lib.hid (hmd)
      clear hmd
      obtain ⟨gd, hgd⟩ : ∃ g, w7.heap.size = g := ⟨_, rfl⟩
      obtain ⟨W8, hW8⟩ : ∃ X, w7.alloc (.cells #[.int .i64 a, .slice Ad l.length cd] 24) = X := ⟨_, rfl⟩
      have hbW8 : Below w7.heap.size w7 W8 := hW8 ▸ (Below.refl _ _).alloc (Nat.le_refl _) _
      have hnd : Blk W8 gd 24 #[.int .i64 a, .slice Ad l.length cd] := by rw [← hW8]; exact blkNew hgd
      have Ha_8 := Lib.hid (Ha_7.out.below (hbW8.mono HBB_7.out))
      have HBB_8 : Hid (B ≤ W8.heap.size) := Lib.hid (Nat.le_trans HBB_7.out hbW8.size)
      have HG_8 := Lib.hid (HG_7.out.below hbW8)
      have HB_8 := Lib.hid (HB_7.out.trans (hbW8.mono HB_7.out.size))
      have Pa_8 := Lib.hid (Pa_7.out.below hbW8 Pa_7.out.lt)
      have Mm_8 := Lib.hid (Mm_7.out.below hbW8)
      have Pm_8 := Lib.hid (Pm_7.out.below hbW8 Pm_7.out.lt)
      have Mc_8 := Lib.hid (Mc_7.out.below hbW8)
      have Pc_8 := Lib.hid (Pc_7.out.below hbW8 Pc_7.out.lt)
      have Md_8 := Lib.hid (Md_7.out.below hbW8)
      have Pd_8 := Lib.hid (hnd)
      clear hbW8 hnd
      have cPa0_8 : W8.cell? ⟨ga, 0, none⟩ = some (.int .i64 a) := Pa_8.out.cell 0
      have cPa1_8 : W8.cell? ⟨ga, 1, none⟩ = some (.slice A l.length c) := Pa_8.out.cell 1
      have cPc0_8 : W8.cell? ⟨gc, 0, none⟩ = some (.int .i64 a2) := Pc_8.out.cell 0
      have cPc1_8 : W8.cell? ⟨gc, 1, none⟩ = some (.slice Ac l.length cc) := Pc_8.out.cell 1
      have cPd0_8 : W8.cell? ⟨gd, 0, none⟩ = some (.int .i64 a) := Pd_8.out.cell 0
      have cPd1_8 : W8.cell? ⟨gd, 1, none⟩ = some (.slice Ad l.length cd) := Pd_8.out.cell 1
      have HXc := Lib.hid (PosOK.right Mc_8.out HRC.out)
      have HXd := Lib.hid (PosOK.right Md_8.out HRT2.out)
      have LA := Lib.hid (show l.length * 16 ≤ 140737488351232 by have := HRT2.out.len; omega)
      go_wp2_with (fail)
      refine wp_region_class (InB W8) (by kernel_rfl) (by kernel_rfl) (InB.start _) ?_
      refine BigFrame.wpQuiet_want (by rfl) (fun K hK => ?_)
      refine quiet_value (.nilIface) (fun W hW => ?_) (hK _ ?_)
      · clear hK
        clear hW
        go_simp
      clear hK K
      simp only [Act.put, List.setIfInBounds_toArray, List.set_cons_zero, List.set_cons_succ]
      refine BigFrame.wpQuiet_want (by rfl) (fun K hK => ?_)
      refine quiet_value (.bool true) (fun W hW => ?_) (hK _ ?_)
      · clear hK
        clear hW
        go_simp
      clear hK K
      simp only [Act.put, List.setIfInBounds_toArray, List.set_cons_zero, List.set_cons_succ]
      refine BigFrame.wpQuiet_want (by rfl) (fun K hK => ?_)
      refine quiet_value (.bool true) (fun W hW => ?_) (hK _ ?_)
      · clear hK
        clear hW
        go_simp
      clear hK K
      simp only [Act.put, List.setIfInBounds_toArray, List.set_cons_zero, List.set_cons_succ]
      refine BigFrame.wpQuiet_want (by rfl) (fun K hK => ?_)
      refine quiet_value (.agg #[.int .i64 a, .slice Ad l.length cd]) (fun W hW => ?_) (hK _ ?_)
      · clear hK
        have q0 := hW.cell cPd0_8
        have q1 := hW.cell cPd1_8
        clear hW
        go_simp
      clear hK K
      simp only [Act.put, List.setIfInBounds_toArray, List.set_cons_zero, List.set_cons_succ]
      refine BigFrame.wpQuiet_want (by rfl) (fun K hK => ?_)
      refine quiet_value (.agg #[.int .i64 a, .slice A l.length c]) (fun W hW => ?_) (hK _ ?_)
      · clear hK
        have q0 := hW.cell cPa0_8
        have q1 := hW.cell cPa1_8
        clear hW
        go_simp
      clear hK K
      simp only [Act.put, List.setIfInBounds_toArray, List.set_cons_zero, List.set_cons_succ]
      refine BigFrame.wpQuiet_want (by rfl) (fun K hK => ?_)
      refine quiet_call 12 #[.agg #[.int .i64 a, .slice Ad l.length cd], .agg #[.int .i64 a, .slice A l.length c]] (.bool true) (fun W => ?_) (fun W hW => ?_) (hK _ ?_)
      · clear hK
        go_simp
      · refine (((show (a == a && decide (l = l)) = true by simp) ▸ (samePos_calls a a l l Ad A cd c W8.heap.size W (HXd.out.r.below hW) ((Ha_8.out.r.more HBB_8.out).below hW) hW.size LA.out) : Calls Tryd.prog _ _ W fun e w' => e = .returned (.bool true) ∧ Below W.heap.size W w')).mono ?_
        rintro e w' ⟨rfl, hb⟩
        exact ⟨rfl, hW.trans hb⟩
      clear hK K
      simp only [Act.put, List.setIfInBounds_toArray, List.set_cons_zero, List.set_cons_succ]
      refine BigFrame.wpQuiet_want (by rfl) (fun K hK => ?_)
      refine quiet_value (.bool true) (fun W hW => ?_) (hK _ ?_)
      · clear hK
        clear hW
        go_simp
      clear hK K
      simp only [Act.put, List.setIfInBounds_toArray, List.set_cons_zero, List.set_cons_succ]
      refine BigFrame.wpQuiet_want (by rfl) (fun K hK => ?_)
      refine quiet_value (.bool true) (fun W hW => ?_) (hK _ ?_)
      · clear hK
        clear hW
        go_simp
      clear hK K
      simp only [Act.put, List.setIfInBounds_toArray, List.set_cons_zero, List.set_cons_succ]
      refine BigFrame.wpQuiet_want (by rfl) (fun K hK => ?_)
      refine quiet_value (.agg #[.int .i64 a2, .slice Ac l.length cc]) (fun W hW => ?_) (hK _ ?_)
      · clear hK
        have q0 := hW.cell cPc0_8
        have q1 := hW.cell cPc1_8
        clear hW
        go_simp
      clear hK K
      simp only [Act.put, List.setIfInBounds_toArray, List.set_cons_zero, List.set_cons_succ]
      refine BigFrame.wpQuiet_want (by rfl) (fun K hK => ?_)
      refine quiet_call 18 #[.agg #[.int .i64 a2, .slice Ac l.length cc]] (.int .i64 (tp + q)) (fun W => ?_) (fun W hW => ?_) (hK _ ?_)
      · clear hK
        go_simp
      · refine ((TC.out ▸ (totalX_calls a2 l Ac cc W8.heap.size W (HXc.out.below hW) hW.size) : Calls Tryd.prog _ _ W fun e w' => e = .returned (.int .i64 (tp + q)) ∧ Below W.heap.size W w')).mono ?_
        rintro e w' ⟨rfl, hb⟩
        exact ⟨rfl, hW.trans hb⟩
      clear hK K
      simp only [Act.put, List.setIfInBounds_toArray, List.set_cons_zero, List.set_cons_succ]
      refine BigFrame.wpQuiet_want (by rfl) (fun K hK => ?_)
      refine quiet_value (.agg #[.int .i64 a, .slice A l.length c]) (fun W hW => ?_) (hK _ ?_)
      · clear hK
        have q0 := hW.cell cPa0_8
        have q1 := hW.cell cPa1_8
        clear hW
        go_simp
      clear hK K
      simp only [Act.put, List.setIfInBounds_toArray, List.set_cons_zero, List.set_cons_succ]
      refine BigFrame.wpQuiet_want (by rfl) (fun K hK => ?_)
      refine quiet_call 18 #[.agg #[.int .i64 a, .slice A l.length c]] (.int .i64 tp) (fun W => ?_) (fun W hW => ?_) (hK _ ?_)
      · clear hK
        go_simp
      · refine ((TA.out ▸ (totalX_calls a l A c B W (Ha_8.out.below (hW.mono HBB_8.out)) (Nat.le_trans HBB_8.out hW.size)) : Calls Tryd.prog _ _ W fun e w' => e = .returned (.int .i64 tp) ∧ Below W.heap.size W w')).mono ?_
        rintro e w' ⟨rfl, hb⟩
        exact ⟨rfl, hW.trans hb⟩
      clear hK K
      simp only [Act.put, List.setIfInBounds_toArray, List.set_cons_zero, List.set_cons_succ]
      refine BigFrame.wpQuiet_want (by rfl) (fun K hK => ?_)
      refine quiet_value (.int .i64 q) (fun W hW => ?_) (hK _ ?_)
      · clear hK
        clear hW
        go_simp
      clear hK K
      simp only [Act.put, List.setIfInBounds_toArray, List.set_cons_zero, List.set_cons_succ]
      refine BigFrame.wpQuiet_want (by rfl) (fun K hK => ?_)
      refine quiet_value (.int .i64 (tp + q)) (fun W hW => ?_) (hK _ ?_)
      · clear hK
        clear hW
        go_simp
      clear hK K
      simp only [Act.put, List.setIfInBounds_toArray, List.set_cons_zero, List.set_cons_succ]
      refine BigFrame.wpQuiet_want (by rfl) (fun K hK => ?_)
      refine quiet_value (.bool true) (fun W hW => ?_) (hK _ ?_)
      · clear hK
        clear hW
        go_simp
      clear hK K
      simp only [Act.put, List.setIfInBounds_toArray, List.set_cons_zero, List.set_cons_succ]
      refine BigFrame.wpQuiet_want (by rfl) (fun K hK => ?_)
      refine quiet_value (.bool true) (fun W hW => ?_) (hK _ ?_)
      · clear hK
        clear hW
        go_simp
      clear hK K
      simp only [Act.put, List.setIfInBounds_toArray, List.set_cons_zero, List.set_cons_succ]
      refine BigFrame.wpQuiet_want (by rfl) (fun K hK => ?_)
      refine quiet_value (.bool true) (fun W hW => ?_) (hK _ ?_)
      · clear hK
        clear hW
        go_simp
      clear hK K
      simp only [Act.put, List.setIfInBounds_toArray, List.set_cons_zero, List.set_cons_succ]
      refine wpQuiet_nil ?_
      intro WE hiWE
      clear hW8 hgd cPa0_8 cPa1_8 cPc0_8 cPc1_8 cPd0_8 cPd1_8
      have Ha_9 := Lib.hid (Ha_8.out.below (hiWE.mono HBB_8.out))
      have HBB_9 : Hid (B ≤ WE.heap.size) := Lib.hid (Nat.le_trans HBB_8.out hiWE.size)
      have HG_9 := Lib.hid (HG_8.out.below hiWE)
      have HB_9 := Lib.hid (HB_8.out.trans (hiWE.mono HB_8.out.size))
      have Pa_9 := Lib.hid (Pa_8.out.below hiWE Pa_8.out.lt)
      have Mm_9 := Lib.hid (Mm_8.out.below hiWE)
      have Pm_9 := Lib.hid (Pm_8.out.below hiWE Pm_8.out.lt)
      have Mc_9 := Lib.hid (Mc_8.out.below hiWE)
      have Pc_9 := Lib.hid (Pc_8.out.below hiWE Pc_8.out.lt)
      have Md_9 := Lib.hid (Md_8.out.below hiWE)
      have Pd_9 := Lib.hid (Pd_8.out.below hiWE Pd_8.out.lt)
      go_wp2_with (fail)
      go_ret
      exact ⟨rfl, HB_9.out⟩
    · obtain ⟨rc, hrc⟩ : ∃ r, creditS a l q = r := ⟨_, rfl⟩
      rw [hrc] at hmc hzc ⊢
      obtain ⟨rec, rpc, rac, rlc⟩ := rc
      dsimp only at hmc hzc ⊢
      have HZc := Lib.hid hzc
      have HRRc := Lib.hid hrc
      clear hzc hrc
      have Mc_5 := Lib.hid (hmc)
      clear hmc
      obtain ⟨gc, hgc⟩ : ∃ g, w5.heap.size = g := ⟨_, rfl⟩
      obtain ⟨W6, hW6⟩ : ∃ X, w5.alloc (.cells #[.int .i64 rac, .slice Ac rlc.length cc] 24) = X := ⟨_, rfl⟩
      have hbW6 : Below w5.heap.size w5 W6 := hW6 ▸ (Below.refl _ _).alloc (Nat.le_refl _) _
      have hnc : Blk W6 gc 24 #[.int .i64 rac, .slice Ac rlc.length cc] := by rw [← hW6]; exact blkNew hgc
      have Ha_6 := Lib.hid (Ha_5.out.below (hbW6.mono HBB_5.out))
      have HBB_6 : Hid (B ≤ W6.heap.size) := Lib.hid (Nat.le_trans HBB_5.out hbW6.size)
      have HG_6 := Lib.hid (HG_5.out.below hbW6)
      have HB_6 := Lib.hid (HB_5.out.trans (hbW6.mono HB_5.out.size))
      have Pa_6 := Lib.hid (Pa_5.out.below hbW6 Pa_5.out.lt)
      have Mm_6 := Lib.hid (Mm_5.out.below hbW6)
      have Pm_6 := Lib.hid (Pm_5.out.below hbW6 Pm_5.out.lt)
      have Mc_6 := Lib.hid (Mc_5.out.below hbW6)
      have Pc_6 := Lib.hid (hnc)
      clear hbW6 hnc
      go_wp2_with (fail)
      go_ret
      exact ⟨rfl, HB_6.out⟩

set_option maxRecDepth 100000 in
set_option maxHeartbeats 4000000 in
theorem lawFirst_calls (a : Int) (l : List Mk) (A : Option Addr) (c B : Nat) (q n : Int) (w : World) (h1 : PosOK w B a l A) (hB : B ≤ w.heap.size) (hG : HG w) (hq : q ≤ 9223372036854775807) :
    Calls Tryd.prog 5 #[.agg #[.int .i64 a, .slice A l.length c], .int .i64 q, .int .i64 n] w fun e w' => e = .returned (.bool true) ∧ Below w.heap.size w w' := by
  have HA1 := Lib.hid h1.a1
  have hlen := h1.len
  have Ha_0 := Lib.hid (h1)
  have HBB_0 : Hid (B ≤ w.heap.size) := Lib.hid (hB)
  have HG_0 := Lib.hid (hG)
  have HB_0 := Lib.hid (Below.refl w.heap.size w)
  clear h1 hB hG
  obtain ⟨ga, hga⟩ : ∃ g, w.heap.size = g := ⟨_, rfl⟩
  obtain ⟨W1, hW1⟩ : ∃ X, w.alloc (.cells #[.int .i64 a, .slice A l.length c] 24) = X := ⟨_, rfl⟩
  have hbW1 : Below w.heap.size w W1 := hW1 ▸ (Below.refl _ _).alloc (Nat.le_refl _) _
  have hna : Blk W1 ga 24 #[.int .i64 a, .slice A l.length c] := by rw [← hW1]; exact blkNew hga
  have Ha_1 := Lib.hid (Ha_0.out.below (hbW1.mono HBB_0.out))
  have HBB_1 : Hid (B ≤ W1.heap.size) := Lib.hid (Nat.le_trans HBB_0.out hbW1.size)
  have HG_1 := Lib.hid (HG_0.out.below hbW1)
  have HB_1 := Lib.hid (HB_0.out.trans (hbW1.mono HB_0.out.size))
  have Pa_1 := Lib.hid (hna)
  clear hbW1 hna
  go_enter Tryd.func5, Tryd.ntmps5
  have cPa0_1 : W1.cell? ⟨ga, 0, none⟩ = some (.int .i64 a) := Pa_1.out.cell 0
  have cPa1_1 : W1.cell? ⟨ga, 1, none⟩ = some (.slice A l.length c) := Pa_1.out.cell 1
  go_wp2_with (fail)
  refine (debit_calls a l A c B q n W1 Ha_1.out HBB_1.out HG_1.out hq).mono ?_
  rintro e w2 hres
  obtain ⟨hbw2, Ad, cd, evd, rfl, hmd, hevd⟩ := hres.cases_
  clear hres
  clear hW1 hga cPa0_1 cPa1_1
  have Ha_2 := Lib.hid (Ha_1.out.below (hbw2.mono HBB_1.out))
  have HBB_2 : Hid (B ≤ w2.heap.size) := Lib.hid (Nat.le_trans HBB_1.out hbw2.size)
  have HG_2 := Lib.hid (HG_1.out.below hbw2)
  have HB_2 := Lib.hid (HB_1.out.trans (hbw2.mono HB_1.out.size))
  have Pa_2 := Lib.hid (Pa_1.out.below hbw2 Pa_1.out.lt)
  clear hbw2
  rcases hevd with ⟨hzd, rfl⟩ | ⟨hzd, td, vd, rfl⟩
  · obtain ⟨hrt, hq1, hn1, hn2, hqa, heq⟩ := debit_zero (a := a) (l := l) (q := q) (n := n) (show a ≤ MaxA from HA1.out) hzd
    have hfd := first_debit (a := a) (l := l) (q := q) (n := n) (show a ≤ MaxA from HA1.out) hzd
    have hgl := getQ_le hrt.q n
    have hg0 := getQ_nonneg hrt.q n
    have hs0 := sumQ_nonneg hrt.q
    have ha0 := hrt.a0
    have hsm := hrt.sum
    have htp := right_total hrt
    have hmk := right_marked hrt n
    unfold MaxA at hsm
    rw [heq] at hfd
    obtain ⟨a1, ha1⟩ : ∃ x, a + min (getQ l n) q - q = x := ⟨_, rfl⟩
    obtain ⟨L1, hL1⟩ : ∃ x, setQ l n (getQ l n - min (getQ l n) q) = x := ⟨_, rfl⟩
    rw [ha1, hL1] at heq hfd
    obtain ⟨hrd, _, hmd1, had1, hot, hin, htd⟩ := hfd
    dsimp only at hrd hmd1 had1 hot hin htd
    obtain ⟨tp, htp2⟩ : ∃ x, totalS a l = x := ⟨_, rfl⟩
    obtain ⟨was, hwas⟩ : ∃ x, markedS a l n = x := ⟨_, rfl⟩
    obtain ⟨now, hnow⟩ : ∃ x, markedS a1 L1 n = x := ⟨_, rfl⟩
    rw [hwas, hnow] at hmd1
    rw [hwas] at had1 hmk
    rw [htp2] at htd htp
    have HRD := Lib.hid hrd
    have HRT := Lib.hid hrt
    have TA := Lib.hid htp2
    have TD := Lib.hid htd
    have HW := Lib.hid hwas
    have HN := Lib.hid hnow
    have HOT := Lib.hid hot
    have HIN := Lib.hid hin
    have NUM : Hid (0 ≤ was ∧ was ≤ 9223372036854775807 ∧ now = was - min was q ∧ a1 = a + min was q - q ∧ 0 ≤ a ∧ a ≤ 9223372036854775807 ∧ 1 ≤ q ∧ q ≤ a + was ∧ tp ≤ 9223372036854775807 ∧ 0 ≤ tp) := by
      have e1 : was = getQ l n := hmk
      exact ⟨by omega, by omega, hmd1, had1, ha0, by omega, hq1, by omega, by omega, by omega⟩
    clear hrd hrt htp2 htd hwas hnow hot hin hmd1 had1 hmk ha1 hL1 hg0 hgl hs0 ha0 hsm htp hq1 hn1 hn2 hqa
    have HEQd := Lib.hid heq
    rw [heq] at hmd ⊢
    dsimp only at hmd ⊢
    clear heq hzd
    have Md_2 := Lib.hid (hmd)
    clear hmd
    obtain ⟨gd, hgd⟩ : ∃ g, w2.heap.size = g := ⟨_, rfl⟩
    obtain ⟨W3, hW3⟩ : ∃ X, w2.alloc (.cells #[.int .i64 a1, .slice Ad L1.length cd] 24) = X := ⟨_, rfl⟩
    have hbW3 : Below w2.heap.size w2 W3 := hW3 ▸ (Below.refl _ _).alloc (Nat.le_refl _) _
    have hnd : Blk W3 gd 24 #[.int .i64 a1, .slice Ad L1.length cd] := by rw [← hW3]; exact blkNew hgd
    have Ha_3 := Lib.hid (Ha_2.out.below (hbW3.mono HBB_2.out))
    have HBB_3 : Hid (B ≤ W3.heap.size) := Lib.hid (Nat.le_trans HBB_2.out hbW3.size)
    have HG_3 := Lib.hid (HG_2.out.below hbW3)
    have HB_3 := Lib.hid (HB_2.out.trans (hbW3.mono HB_2.out.size))
    have Pa_3 := Lib.hid (Pa_2.out.below hbW3 Pa_2.out.lt)
    have Md_3 := Lib.hid (Md_2.out.below hbW3)
    have Pd_3 := Lib.hid (hnd)
    clear hbW3 hnd
    go_wp2_with (fail)
    refine (works_calls W3 HG_3.out).mono ?_
    rintro e w4 ⟨rfl, hbw4⟩
    clear hW3 hgd
    have Ha_4 := Lib.hid (Ha_3.out.below (hbw4.mono HBB_3.out))
    have HBB_4 : Hid (B ≤ w4.heap.size) := Lib.hid (Nat.le_trans HBB_3.out hbw4.size)
    have HG_4 := Lib.hid (HG_3.out.below hbw4)
    have HB_4 := Lib.hid (HB_3.out.trans (hbw4.mono HB_3.out.size))
    have Pa_4 := Lib.hid (Pa_3.out.below hbw4 Pa_3.out.lt)
    have Md_4 := Lib.hid (Md_3.out.below hbw4)
    have Pd_4 := Lib.hid (Pd_3.out.below hbw4 Pd_3.out.lt)
    clear hbw4
    have cPa0_4 : w4.cell? ⟨ga, 0, none⟩ = some (.int .i64 a) := Pa_4.out.cell 0
    have cPa1_4 : w4.cell? ⟨ga, 1, none⟩ = some (.slice A l.length c) := Pa_4.out.cell 1
    have cPd0_4 : w4.cell? ⟨gd, 0, none⟩ = some (.int .i64 a1) := Pd_4.out.cell 0
    have cPd1_4 : w4.cell? ⟨gd, 1, none⟩ = some (.slice Ad L1.length cd) := Pd_4.out.cell 1
    go_wp2_with (fail)
    refine (marked_calls a l A c B n w4 Ha_4.out HBB_4.out).mono ?_
    rintro e w5 ⟨rfl, hbw5⟩
    rw [HW.out]
    clear cPa0_4 cPa1_4 cPd0_4 cPd1_4
    have Ha_5 := Lib.hid (Ha_4.out.below (hbw5.mono HBB_4.out))
    have HBB_5 : Hid (B ≤ w5.heap.size) := Lib.hid (Nat.le_trans HBB_4.out hbw5.size)
    have HG_5 := Lib.hid (HG_4.out.below hbw5)
    have HB_5 := Lib.hid (HB_4.out.trans (hbw5.mono HB_4.out.size))
    have Pa_5 := Lib.hid (Pa_4.out.below hbw5 Pa_4.out.lt)
    have Md_5 := Lib.hid (Md_4.out.below hbw5)
    have Pd_5 := Lib.hid (Pd_4.out.below hbw5 Pd_4.out.lt)
    clear hbw5
    have cPa0_5 : w5.cell? ⟨ga, 0, none⟩ = some (.int .i64 a) := Pa_5.out.cell 0
    have cPa1_5 : w5.cell? ⟨ga, 1, none⟩ = some (.slice A l.length c) := Pa_5.out.cell 1
    have cPd0_5 : w5.cell? ⟨gd, 0, none⟩ = some (.int .i64 a1) := Pd_5.out.cell 0
    have cPd1_5 : w5.cell? ⟨gd, 1, none⟩ = some (.slice Ad L1.length cd) := Pd_5.out.cell 1
    have HXd := Lib.hid (PosOK.right Md_5.out HRD.out)
    go_wp2_with (fail)
    refine (marked_calls a1 L1 Ad cd w5.heap.size n w5 HXd.out (Nat.le_refl _)).mono ?_
    rintro e w6 ⟨rfl, hbw6⟩
    rw [HN.out]
    clear HXd
    clear cPa0_5 cPa1_5 cPd0_5 cPd1_5
    have Ha_6 := Lib.hid (Ha_5.out.below (hbw6.mono HBB_5.out))
    have HBB_6 : Hid (B ≤ w6.heap.size) := Lib.hid (Nat.le_trans HBB_5.out hbw6.size)
    have HG_6 := Lib.hid (HG_5.out.below hbw6)
    have HB_6 := Lib.hid (HB_5.out.trans (hbw6.mono HB_5.out.size))
    have Pa_6 := Lib.hid (Pa_5.out.below hbw6 Pa_5.out.lt)
    have Md_6 := Lib.hid (Md_5.out.below hbw6)
    have Pd_6 := Lib.hid (Pd_5.out.below hbw6 Pd_5.out.lt)
    clear hbw6
    have cPa0_6 : w6.cell? ⟨ga, 0, none⟩ = some (.int .i64 a) := Pa_6.out.cell 0
    have cPa1_6 : w6.cell? ⟨ga, 1, none⟩ = some (.slice A l.length c) := Pa_6.out.cell 1
    have cPd0_6 : w6.cell? ⟨gd, 0, none⟩ = some (.int .i64 a1) := Pd_6.out.cell 0
    have cPd1_6 : w6.cell? ⟨gd, 1, none⟩ = some (.slice Ad L1.length cd) := Pd_6.out.cell 1
    have hwn : IntKind.i64.wrap (was - now) = was - now := IntWalk.i64_in _ (by have := NUM.out; omega)
    have hwn2 : IntKind.i64.wrap (q - (was - now)) = q - (was - now) := IntWalk.i64_in _ (by have := NUM.out; omega)
    have hwn3 : IntKind.i64.wrap (a - (q - (was - now))) = a1 := (IntWalk.i64_in _ (by have := NUM.out; omega)).trans (by have := NUM.out; omega)
    have hall : (q ≤ was ∧ now = was - q) ∨ (was < q ∧ now = 0) := by have := NUM.out; omega
    have HALL := Lib.hid hall
    clear hall
    have hwq : q ≤ was → IntKind.i64.wrap (was - q) = now := fun h => (IntWalk.i64_in _ (by have := NUM.out; omega)).trans (by have := NUM.out; omega)
    have HWQ := Lib.hid hwq
    clear hwq
    rcases HALL.out with ⟨hge, hnw⟩ | ⟨hlt0, hnw⟩
    · have hgb : ¬ was < q := by omega
      have hw5 := HWQ.out hge
      have hnb : (now != now) = false := by simp
      clear hnw
      go_wp2_with (fail)
      clear cPa0_6 cPa1_6 cPd0_6 cPd1_6
      go_loopw [11, 12] (fun i _ wr => ∃ k : Nat, k ≤ l.length ∧ i = .int .i64 k ∧ Below w6.heap.size w6 wr) (fun i _ _ => l.length - (intOf i).toNat)
      case atStart => exact ⟨0, Nat.zero_le _, rfl, Below.refl _ _⟩
      case round =>
        obtain ⟨k, hk, rfl, hbr⟩ := hrel
        have HBR := Lib.hid hbr
        have Ha_7 := Lib.hid (Ha_6.out.below (hbr.mono HBB_6.out))
        have HBB_7 : Hid (B ≤ wr.heap.size) := Lib.hid (Nat.le_trans HBB_6.out hbr.size)
        have HG_7 := Lib.hid (HG_6.out.below hbr)
        have HB_7 := Lib.hid (HB_6.out.trans (hbr.mono HB_6.out.size))
        have Pa_7 := Lib.hid (Pa_6.out.below hbr Pa_6.out.lt)
        have Md_7 := Lib.hid (Md_6.out.below hbr)
        have Pd_7 := Lib.hid (Pd_6.out.below hbr Pd_6.out.lt)
        clear hbr
        have cPa0_7 : wr.cell? ⟨ga, 0, none⟩ = some (.int .i64 a) := Pa_7.out.cell 0
        have cPa1_7 : wr.cell? ⟨ga, 1, none⟩ = some (.slice A l.length c) := Pa_7.out.cell 1
        have cPd0_7 : wr.cell? ⟨gd, 0, none⟩ = some (.int .i64 a1) := Pd_7.out.cell 0
        have cPd1_7 : wr.cell? ⟨gd, 1, none⟩ = some (.slice Ad L1.length cd) := Pd_7.out.cell 1
        by_cases hlt : k < l.length
        · have hkl : (k : Int) < l.length := by omega
          obtain ⟨ad, rfl, hadb, e0, e1⟩ := marks_at (Ha_7.out.r) hlt
          have hxq : l[k].m ≠ n → markedS a1 L1 l[k].m = l[k].q := fun h => by rw [HOT.out _ h, right_marked HRT.out]; exact getQ_mem HRT.out.up (by simp)
          obtain ⟨x, hx⟩ : ∃ x, l[k] = x := ⟨_, rfl⟩
          rw [hx] at e0 e1 hxq
          have HXQ := Lib.hid hxq
          clear hx hxq
          by_cases hxn : x.m = n
          · have hxb : (x.m != n) = false := by simp [hxn]
            go_wp2_with (fail)
            go_quiet (fail)
            clear cPa0_7 cPa1_7 cPd0_7 cPd1_7
            go_wp2_with (fail)
            go_roundw
            case rel => exact ⟨k + 1, by omega, by go_num, below_drewN HBR.out _⟩
            case measure => simp [intOf]; omega
          · have hxb : (x.m != n) = true := by simpa using hxn
            have HXd := Lib.hid (PosOK.right Md_7.out HRD.out)
            have HV := Lib.hid (HXQ.out hxn)
            go_wp2_with (fail)
            refine wp_region_class (InB wr) (by kernel_rfl) (by kernel_rfl) (InB.start _) ?_
            refine BigFrame.wpQuiet_want (by rfl) (fun K hK => ?_)
            refine quiet_value (.int .i64 x.m) (fun W hW => ?_) (hK _ ?_)
            · clear hK
              clear hW
              go_simp
            clear hK K
            simp only [Act.put, List.setIfInBounds_toArray, List.set_cons_zero, List.set_cons_succ]
            refine BigFrame.wpQuiet_want (by rfl) (fun K hK => ?_)
            refine quiet_value (.int .i64 n) (fun W hW => ?_) (hK _ ?_)
            · clear hK
              clear hW
              go_simp
            clear hK K
            simp only [Act.put, List.setIfInBounds_toArray, List.set_cons_zero, List.set_cons_succ]
            refine BigFrame.wpQuiet_want (by rfl) (fun K hK => ?_)
            refine quiet_value (.bool true) (fun W hW => ?_) (hK _ ?_)
            · clear hK
              clear hW
              go_simp
            clear hK K
            simp only [Act.put, List.setIfInBounds_toArray, List.set_cons_zero, List.set_cons_succ]
            refine BigFrame.wpQuiet_want (by rfl) (fun K hK => ?_)
            refine quiet_value (.bool true) (fun W hW => ?_) (hK _ ?_)
            · clear hK
              clear hW
              go_simp
            clear hK K
            simp only [Act.put, List.setIfInBounds_toArray, List.set_cons_zero, List.set_cons_succ]
            refine BigFrame.wpQuiet_want (by rfl) (fun K hK => ?_)
            refine quiet_value (.agg #[.int .i64 a1, .slice Ad L1.length cd]) (fun W hW => ?_) (hK _ ?_)
            · clear hK
              have q0 := hW.cell cPd0_7
              have q1 := hW.cell cPd1_7
              clear hW
              go_simp
            clear hK K
            simp only [Act.put, List.setIfInBounds_toArray, List.set_cons_zero, List.set_cons_succ]
            refine BigFrame.wpQuiet_want (by rfl) (fun K hK => ?_)
            refine quiet_value (.int .i64 x.m) (fun W hW => ?_) (hK _ ?_)
            · clear hK
              clear hW
              go_simp
            clear hK K
            simp only [Act.put, List.setIfInBounds_toArray, List.set_cons_zero, List.set_cons_succ]
            refine BigFrame.wpQuiet_want (by rfl) (fun K hK => ?_)
            refine quiet_call 20 #[.agg #[.int .i64 a1, .slice Ad L1.length cd], .int .i64 x.m] (.int .i64 x.q) (fun W => ?_) (fun W hW => ?_) (hK _ ?_)
            · clear hK
              go_simp
            · refine ((HV.out ▸ (marked_calls a1 L1 Ad cd wr.heap.size x.m W (HXd.out.below hW) hW.size) : Calls Tryd.prog _ _ W fun e w' => e = .returned (.int .i64 x.q) ∧ Below W.heap.size W w')).mono ?_
              rintro e w' ⟨rfl, hb⟩
              exact ⟨rfl, hW.trans hb⟩
            clear hK K
            simp only [Act.put, List.setIfInBounds_toArray, List.set_cons_zero, List.set_cons_succ]
            refine BigFrame.wpQuiet_want (by rfl) (fun K hK => ?_)
            refine quiet_value (.pointer (some ⟨ga, 1, none⟩)) (fun W hW => ?_) (hK _ ?_)
            · clear hK
              clear hW
              go_simp
            clear hK K
            simp only [Act.put, List.setIfInBounds_toArray, List.set_cons_zero, List.set_cons_succ]
            refine BigFrame.wpQuiet_want (by rfl) (fun K hK => ?_)
            refine quiet_value (.slice (some ad) l.length c) (fun W hW => ?_) (hK _ ?_)
            · clear hK
              have q0 := hW.cell cPa1_7
              clear hW
              go_simp
            clear hK K
            simp only [Act.put, List.setIfInBounds_toArray, List.set_cons_zero, List.set_cons_succ]
            refine BigFrame.wpQuiet_want (by rfl) (fun K hK => ?_)
            refine quiet_value (.int .i64 k) (fun W hW => ?_) (hK _ ?_)
            · clear hK
              clear hW
              go_simp
            clear hK K
            simp only [Act.put, List.setIfInBounds_toArray, List.set_cons_zero, List.set_cons_succ]
            refine BigFrame.wpQuiet_want (by rfl) (fun K hK => ?_)
            refine quiet_value (.pointer (some (ad.add (k * 2)))) (fun W hW => ?_) (hK _ ?_)
            · clear hK
              clear hW
              go_simp
            clear hK K
            simp only [Act.put, List.setIfInBounds_toArray, List.set_cons_zero, List.set_cons_succ]
            refine BigFrame.wpQuiet_want (by rfl) (fun K hK => ?_)
            refine quiet_value (.pointer (some ⟨(ad.add (k * 2)).block, (ad.add (k * 2)).off + 1, none⟩)) (fun W hW => ?_) (hK _ ?_)
            · clear hK
              clear hW
              go_simp
            clear hK K
            simp only [Act.put, List.setIfInBounds_toArray, List.set_cons_zero, List.set_cons_succ]
            refine BigFrame.wpQuiet_want (by rfl) (fun K hK => ?_)
            refine quiet_value (.int .i64 x.q) (fun W hW => ?_) (hK _ ?_)
            · clear hK
              have q0 := hW.cell e1
              clear hW
              go_simp
            clear hK K
            simp only [Act.put, List.setIfInBounds_toArray, List.set_cons_zero, List.set_cons_succ]
            refine BigFrame.wpQuiet_want (by rfl) (fun K hK => ?_)
            refine quiet_value (.bool false) (fun W hW => ?_) (hK _ ?_)
            · clear hK
              clear hW
              go_simp
            clear hK K
            simp only [Act.put, List.setIfInBounds_toArray, List.set_cons_zero, List.set_cons_succ]
            refine BigFrame.wpQuiet_want (by rfl) (fun K hK => ?_)
            refine quiet_value (.bool false) (fun W hW => ?_) (hK _ ?_)
            · clear hK
              clear hW
              go_simp
            clear hK K
            simp only [Act.put, List.setIfInBounds_toArray, List.set_cons_zero, List.set_cons_succ]
            refine wpQuiet_nil ?_
            intro WQ hiWQ
            clear cPa0_7 cPa1_7 cPd0_7 cPd1_7
            have HBQ := Lib.hid (HBR.out.trans (hiWQ.mono HBR.out.size))
            clear hiWQ e0 e1 HXd
            go_wp2_with (fail)
            go_roundw
            case rel => exact ⟨k + 1, by omega, by go_num, HBQ.out⟩
            case measure => simp [intOf]; omega
        · obtain rfl : k = l.length := by omega
          clear HBR hlt
          have hl1 : L1.length ≤ 8 := HRD.out.len
          go_wp2_with (fail)
          clear cPa0_7 cPa1_7 cPd0_7 cPd1_7
          go_loopw [13] (fun i wq => ∃ k : Nat, k ≤ L1.length ∧ i = .int .i64 k ∧ Below wr.heap.size wr wq) (fun i _ => L1.length - (intOf i).toNat)
          case atStart => exact ⟨0, Nat.zero_le _, rfl, Below.refl _ _⟩
          case round =>
            obtain ⟨k, hk, rfl, hbr⟩ := hrel
            rename World => wq
            have HBR := Lib.hid hbr
            have Ha_8 := Lib.hid (Ha_7.out.below (hbr.mono HBB_7.out))
            have HBB_8 : Hid (B ≤ wq.heap.size) := Lib.hid (Nat.le_trans HBB_7.out hbr.size)
            have HG_8 := Lib.hid (HG_7.out.below hbr)
            have HB_8 := Lib.hid (HB_7.out.trans (hbr.mono HB_7.out.size))
            have Pa_8 := Lib.hid (Pa_7.out.below hbr Pa_7.out.lt)
            have Md_8 := Lib.hid (Md_7.out.below hbr)
            have Pd_8 := Lib.hid (Pd_7.out.below hbr Pd_7.out.lt)
            clear hbr
            have cPa0_8 : wq.cell? ⟨ga, 0, none⟩ = some (.int .i64 a) := Pa_8.out.cell 0
            have cPa1_8 : wq.cell? ⟨ga, 1, none⟩ = some (.slice A l.length c) := Pa_8.out.cell 1
            have cPd0_8 : wq.cell? ⟨gd, 0, none⟩ = some (.int .i64 a1) := Pd_8.out.cell 0
            have cPd1_8 : wq.cell? ⟨gd, 1, none⟩ = some (.slice Ad L1.length cd) := Pd_8.out.cell 1
            by_cases hlt : k < L1.length
            · have hkl : (k : Int) < L1.length := by omega
              obtain ⟨ad, rfl, hadb, e0, e1⟩ := marks_at (PosOK.right Md_8.out HRD.out).r hlt
              have hxq := HIN.out L1[k] (by simp)
              obtain ⟨x, hx⟩ : ∃ x, L1[k] = x := ⟨_, rfl⟩
              rw [hx] at e0 hxq
              obtain ⟨mv, hmv⟩ : ∃ v, markedS a l x.m = v := ⟨_, rfl⟩
              rw [hmv] at hxq
              have HV := Lib.hid hmv
              have hmb : (mv == 0) = false := by simpa using hxq
              clear hx hxq e1 hmv
              go_wp2_with (fail)
              refine wp_region_class (InB wq) (by kernel_rfl) (by kernel_rfl) (InB.start _) ?_
              refine BigFrame.wpQuiet_want (by rfl) (fun K hK => ?_)
              refine quiet_value (.agg #[.int .i64 a, .slice A l.length c]) (fun W hW => ?_) (hK _ ?_)
              · clear hK
                have q0 := hW.cell cPa0_8
                have q1 := hW.cell cPa1_8
                clear hW
                go_simp
              clear hK K
              simp only [Act.put, List.setIfInBounds_toArray, List.set_cons_zero, List.set_cons_succ]
              refine BigFrame.wpQuiet_want (by rfl) (fun K hK => ?_)
              refine quiet_value (.pointer (some ⟨gd, 1, none⟩)) (fun W hW => ?_) (hK _ ?_)
              · clear hK
                clear hW
                go_simp
              clear hK K
              simp only [Act.put, List.setIfInBounds_toArray, List.set_cons_zero, List.set_cons_succ]
              refine BigFrame.wpQuiet_want (by rfl) (fun K hK => ?_)
              refine quiet_value (.slice (some ad) L1.length cd) (fun W hW => ?_) (hK _ ?_)
              · clear hK
                have q0 := hW.cell cPd1_8
                clear hW
                go_simp
              clear hK K
              simp only [Act.put, List.setIfInBounds_toArray, List.set_cons_zero, List.set_cons_succ]
              refine BigFrame.wpQuiet_want (by rfl) (fun K hK => ?_)
              refine quiet_value (.int .i64 k) (fun W hW => ?_) (hK _ ?_)
              · clear hK
                clear hW
                go_simp
              clear hK K
              simp only [Act.put, List.setIfInBounds_toArray, List.set_cons_zero, List.set_cons_succ]
              refine BigFrame.wpQuiet_want (by rfl) (fun K hK => ?_)
              refine quiet_value (.pointer (some (ad.add (k * 2)))) (fun W hW => ?_) (hK _ ?_)
              · clear hK
                clear hW
                go_simp
              clear hK K
              simp only [Act.put, List.setIfInBounds_toArray, List.set_cons_zero, List.set_cons_succ]
              refine BigFrame.wpQuiet_want (by rfl) (fun K hK => ?_)
              refine quiet_value (.pointer (some (ad.add (k * 2)))) (fun W hW => ?_) (hK _ ?_)
              · clear hK
                clear hW
                go_simp
              clear hK K
              simp only [Act.put, List.setIfInBounds_toArray, List.set_cons_zero, List.set_cons_succ]
              refine BigFrame.wpQuiet_want (by rfl) (fun K hK => ?_)
              refine quiet_value (.int .i64 x.m) (fun W hW => ?_) (hK _ ?_)
              · clear hK
                have q0 := hW.cell e0
                clear hW
                go_simp
              clear hK K
              simp only [Act.put, List.setIfInBounds_toArray, List.set_cons_zero, List.set_cons_succ]
              refine BigFrame.wpQuiet_want (by rfl) (fun K hK => ?_)
              refine quiet_call 20 #[.agg #[.int .i64 a, .slice A l.length c], .int .i64 x.m] (.int .i64 mv) (fun W => ?_) (fun W hW => ?_) (hK _ ?_)
              · clear hK
                go_simp
              · refine ((HV.out ▸ (marked_calls a l A c B x.m W (Ha_8.out.below (hW.mono HBB_8.out)) (Nat.le_trans HBB_8.out hW.size)) : Calls Tryd.prog _ _ W fun e w' => e = .returned (.int .i64 mv) ∧ Below W.heap.size W w')).mono ?_
                rintro e w' ⟨rfl, hb⟩
                exact ⟨rfl, hW.trans hb⟩
              clear hK K
              simp only [Act.put, List.setIfInBounds_toArray, List.set_cons_zero, List.set_cons_succ]
              refine BigFrame.wpQuiet_want (by rfl) (fun K hK => ?_)
              refine quiet_value (.bool false) (fun W hW => ?_) (hK _ ?_)
              · clear hK
                clear hW
                go_simp
              clear hK K
              simp only [Act.put, List.setIfInBounds_toArray, List.set_cons_zero, List.set_cons_succ]
              refine wpQuiet_nil ?_
              intro WQ hiWQ
              clear cPa0_8 cPa1_8 cPd0_8 cPd1_8
              have HBQ := Lib.hid (HBR.out.trans (hiWQ.mono HBR.out.size))
              clear hiWQ e0
              go_wp2_with (fail)
              go_roundw
              case rel => exact ⟨k + 1, by omega, by go_num, HBQ.out⟩
              case measure => simp [intOf]; omega
            · obtain rfl : k = L1.length := by omega
              have hwt : IntKind.i64.wrap (tp - q) = tp - q := IntWalk.i64_in _ (by have := NUM.out; omega)
              have HXd := Lib.hid (PosOK.right Md_8.out HRD.out)
              have HCK : Hid (outV (chk a1 L1) = .nilIface) := by show outV _ = _; unfold outV chk; simp [check_of_right HRD.out]
              go_wp2_with (fail)
              refine wp_region_class (InB wq) (by kernel_rfl) (by kernel_rfl) (InB.start _) ?_
              refine BigFrame.wpQuiet_want (by rfl) (fun K hK => ?_)
              refine quiet_value (.agg #[.int .i64 a1, .slice Ad L1.length cd]) (fun W hW => ?_) (hK _ ?_)
              · clear hK
                have q0 := hW.cell cPd0_8
                have q1 := hW.cell cPd1_8
                clear hW
                go_simp
              clear hK K
              simp only [Act.put, List.setIfInBounds_toArray, List.set_cons_zero, List.set_cons_succ]
              refine BigFrame.wpQuiet_want (by rfl) (fun K hK => ?_)
              refine quiet_call 18 #[.agg #[.int .i64 a1, .slice Ad L1.length cd]] (.int .i64 (tp - q)) (fun W => ?_) (fun W hW => ?_) (hK _ ?_)
              · clear hK
                go_simp
              · refine ((TD.out ▸ (totalX_calls a1 L1 Ad cd wq.heap.size W (HXd.out.below hW) hW.size) : Calls Tryd.prog _ _ W fun e w' => e = .returned (.int .i64 (tp - q)) ∧ Below W.heap.size W w')).mono ?_
                rintro e w' ⟨rfl, hb⟩
                exact ⟨rfl, hW.trans hb⟩
              clear hK K
              simp only [Act.put, List.setIfInBounds_toArray, List.set_cons_zero, List.set_cons_succ]
              refine BigFrame.wpQuiet_want (by rfl) (fun K hK => ?_)
              refine quiet_value (.agg #[.int .i64 a, .slice A l.length c]) (fun W hW => ?_) (hK _ ?_)
              · clear hK
                have q0 := hW.cell cPa0_8
                have q1 := hW.cell cPa1_8
                clear hW
                go_simp
              clear hK K
              simp only [Act.put, List.setIfInBounds_toArray, List.set_cons_zero, List.set_cons_succ]
              refine BigFrame.wpQuiet_want (by rfl) (fun K hK => ?_)
              refine quiet_call 18 #[.agg #[.int .i64 a, .slice A l.length c]] (.int .i64 tp) (fun W => ?_) (fun W hW => ?_) (hK _ ?_)
              · clear hK
                go_simp
              · refine ((TA.out ▸ (totalX_calls a l A c B W (Ha_8.out.below (hW.mono HBB_8.out)) (Nat.le_trans HBB_8.out hW.size)) : Calls Tryd.prog _ _ W fun e w' => e = .returned (.int .i64 tp) ∧ Below W.heap.size W w')).mono ?_
                rintro e w' ⟨rfl, hb⟩
                exact ⟨rfl, hW.trans hb⟩
              clear hK K
              simp only [Act.put, List.setIfInBounds_toArray, List.set_cons_zero, List.set_cons_succ]
              refine BigFrame.wpQuiet_want (by rfl) (fun K hK => ?_)
              refine quiet_value (.int .i64 q) (fun W hW => ?_) (hK _ ?_)
              · clear hK
                clear hW
                go_simp
              clear hK K
              simp only [Act.put, List.setIfInBounds_toArray, List.set_cons_zero, List.set_cons_succ]
              refine BigFrame.wpQuiet_want (by rfl) (fun K hK => ?_)
              refine quiet_value (.int .i64 (tp - q)) (fun W hW => ?_) (hK _ ?_)
              · clear hK
                clear hW
                go_simp
              clear hK K
              simp only [Act.put, List.setIfInBounds_toArray, List.set_cons_zero, List.set_cons_succ]
              refine BigFrame.wpQuiet_want (by rfl) (fun K hK => ?_)
              refine quiet_value (.bool true) (fun W hW => ?_) (hK _ ?_)
              · clear hK
                clear hW
                go_simp
              clear hK K
              simp only [Act.put, List.setIfInBounds_toArray, List.set_cons_zero, List.set_cons_succ]
              refine BigFrame.wpQuiet_want (by rfl) (fun K hK => ?_)
              refine quiet_value (.bool true) (fun W hW => ?_) (hK _ ?_)
              · clear hK
                clear hW
                go_simp
              clear hK K
              simp only [Act.put, List.setIfInBounds_toArray, List.set_cons_zero, List.set_cons_succ]
              refine BigFrame.wpQuiet_want (by rfl) (fun K hK => ?_)
              refine quiet_value (.agg #[.int .i64 a1, .slice Ad L1.length cd]) (fun W hW => ?_) (hK _ ?_)
              · clear hK
                have q0 := hW.cell cPd0_8
                have q1 := hW.cell cPd1_8
                clear hW
                go_simp
              clear hK K
              simp only [Act.put, List.setIfInBounds_toArray, List.set_cons_zero, List.set_cons_succ]
              refine BigFrame.wpQuiet_want (by rfl) (fun K hK => ?_)
              refine quiet_call 16 #[.agg #[.int .i64 a1, .slice Ad L1.length cd]] (.nilIface) (fun W => ?_) (fun W hW => ?_) (hK _ ?_)
              · clear hK
                go_simp
              · refine ((HCK.out ▸ (check_calls a1 L1 Ad cd wq.heap.size W (HXd.out.below hW) hW.size (HG_8.out.below hW)) : Calls Tryd.prog _ _ W fun e w' => e = .returned .nilIface ∧ Below W.heap.size W w')).mono ?_
                rintro e w' ⟨rfl, hb⟩
                exact ⟨rfl, hW.trans hb⟩
              clear hK K
              simp only [Act.put, List.setIfInBounds_toArray, List.set_cons_zero, List.set_cons_succ]
              refine BigFrame.wpQuiet_want (by rfl) (fun K hK => ?_)
              refine quiet_value (.bool true) (fun W hW => ?_) (hK _ ?_)
              · clear hK
                clear hW
                go_simp
              clear hK K
              simp only [Act.put, List.setIfInBounds_toArray, List.set_cons_zero, List.set_cons_succ]
              refine BigFrame.wpQuiet_want (by rfl) (fun K hK => ?_)
              refine quiet_value (.bool true) (fun W hW => ?_) (hK _ ?_)
              · clear hK
                clear hW
                go_simp
              clear hK K
              simp only [Act.put, List.setIfInBounds_toArray, List.set_cons_zero, List.set_cons_succ]
              refine BigFrame.wpQuiet_want (by rfl) (fun K hK => ?_)
              refine quiet_value (.bool true) (fun W hW => ?_) (hK _ ?_)
              · clear hK
                clear hW
                go_simp
              clear hK K
              simp only [Act.put, List.setIfInBounds_toArray, List.set_cons_zero, List.set_cons_succ]
              refine wpQuiet_nil ?_
              intro WE hiWE
              clear cPa0_8 cPa1_8 cPd0_8 cPd1_8
              have Ha_9 := Lib.hid (Ha_8.out.below (hiWE.mono HBB_8.out))
              have HBB_9 : Hid (B ≤ WE.heap.size) := Lib.hid (Nat.le_trans HBB_8.out hiWE.size)
              have HG_9 := Lib.hid (HG_8.out.below hiWE)
              have HB_9 := Lib.hid (HB_8.out.trans (hiWE.mono HB_8.out.size))
              have Pa_9 := Lib.hid (Pa_8.out.below hiWE Pa_8.out.lt)
              have Md_9 := Lib.hid (Md_8.out.below hiWE)
              have Pd_9 := Lib.hid (Pd_8.out.below hiWE Pd_8.out.lt)
              go_wp2_with (fail)
              go_ret
              exact ⟨rfl, HB_9.out⟩
    · have hgb : ¬ q ≤ was := by omega
      subst hnw
      have hv1 : IntKind.i64.wrap was = was := IntWalk.i64_in _ (by have := NUM.out; omega)
      have hv2 : IntKind.i64.wrap (q - was) = q - was := IntWalk.i64_in _ (by have := NUM.out; omega)
      have hv3 : IntKind.i64.wrap (a - (q - was)) = a1 := (IntWalk.i64_in _ (by have := NUM.out; omega)).trans (by have := NUM.out; omega)
      clear hwn hwn2 hwn3
      go_wp2_with (fail)
      clear cPa0_6 cPa1_6 cPd0_6 cPd1_6
      go_loopw [11, 12] (fun i _ wr => ∃ k : Nat, k ≤ l.length ∧ i = .int .i64 k ∧ Below w6.heap.size w6 wr) (fun i _ _ => l.length - (intOf i).toNat)
      case atStart => exact ⟨0, Nat.zero_le _, rfl, Below.refl _ _⟩
      case round =>
        obtain ⟨k, hk, rfl, hbr⟩ := hrel
        have HBR := Lib.hid hbr
        have Ha_7 := Lib.hid (Ha_6.out.below (hbr.mono HBB_6.out))
        have HBB_7 : Hid (B ≤ wr.heap.size) := Lib.hid (Nat.le_trans HBB_6.out hbr.size)
        have HG_7 := Lib.hid (HG_6.out.below hbr)
        have HB_7 := Lib.hid (HB_6.out.trans (hbr.mono HB_6.out.size))
        have Pa_7 := Lib.hid (Pa_6.out.below hbr Pa_6.out.lt)
        have Md_7 := Lib.hid (Md_6.out.below hbr)
        have Pd_7 := Lib.hid (Pd_6.out.below hbr Pd_6.out.lt)
        clear hbr
        have cPa0_7 : wr.cell? ⟨ga, 0, none⟩ = some (.int .i64 a) := Pa_7.out.cell 0
        have cPa1_7 : wr.cell? ⟨ga, 1, none⟩ = some (.slice A l.length c) := Pa_7.out.cell 1
        have cPd0_7 : wr.cell? ⟨gd, 0, none⟩ = some (.int .i64 a1) := Pd_7.out.cell 0
        have cPd1_7 : wr.cell? ⟨gd, 1, none⟩ = some (.slice Ad L1.length cd) := Pd_7.out.cell 1
        by_cases hlt : k < l.length
        · have hkl : (k : Int) < l.length := by omega
          obtain ⟨ad, rfl, hadb, e0, e1⟩ := marks_at (Ha_7.out.r) hlt
          have hxq : l[k].m ≠ n → markedS a1 L1 l[k].m = l[k].q := fun h => by rw [HOT.out _ h, right_marked HRT.out]; exact getQ_mem HRT.out.up (by simp)
          obtain ⟨x, hx⟩ : ∃ x, l[k] = x := ⟨_, rfl⟩
          rw [hx] at e0 e1 hxq
          have HXQ := Lib.hid hxq
          clear hx hxq
          by_cases hxn : x.m = n
          · have hxb : (x.m != n) = false := by simp [hxn]
            go_wp2_with (fail)
            go_quiet (fail)
            clear cPa0_7 cPa1_7 cPd0_7 cPd1_7
            go_wp2_with (fail)
            go_roundw
            case rel => exact ⟨k + 1, by omega, by go_num, below_drewN HBR.out _⟩
            case measure => simp [intOf]; omega
          · have hxb : (x.m != n) = true := by simpa using hxn
            have HXd := Lib.hid (PosOK.right Md_7.out HRD.out)
            have HV := Lib.hid (HXQ.out hxn)
            go_wp2_with (fail)
            refine wp_region_class (InB wr) (by kernel_rfl) (by kernel_rfl) (InB.start _) ?_
            refine BigFrame.wpQuiet_want (by rfl) (fun K hK => ?_)
            refine quiet_value (.int .i64 x.m) (fun W hW => ?_) (hK _ ?_)
            · clear hK
              clear hW
              go_simp
            clear hK K
            simp only [Act.put, List.setIfInBounds_toArray, List.set_cons_zero, List.set_cons_succ]
            refine BigFrame.wpQuiet_want (by rfl) (fun K hK => ?_)
            refine quiet_value (.int .i64 n) (fun W hW => ?_) (hK _ ?_)
            · clear hK
              clear hW
              go_simp
            clear hK K
            simp only [Act.put, List.setIfInBounds_toArray, List.set_cons_zero, List.set_cons_succ]
            refine BigFrame.wpQuiet_want (by rfl) (fun K hK => ?_)
            refine quiet_value (.bool true) (fun W hW => ?_) (hK _ ?_)
            · clear hK
              clear hW
              go_simp
            clear hK K
            simp only [Act.put, List.setIfInBounds_toArray, List.set_cons_zero, List.set_cons_succ]
            refine BigFrame.wpQuiet_want (by rfl) (fun K hK => ?_)
            refine quiet_value (.bool true) (fun W hW => ?_) (hK _ ?_)
            · clear hK
              clear hW
              go_simp
            clear hK K
            simp only [Act.put, List.setIfInBounds_toArray, List.set_cons_zero, List.set_cons_succ]
            refine BigFrame.wpQuiet_want (by rfl) (fun K hK => ?_)
            refine quiet_value (.agg #[.int .i64 a1, .slice Ad L1.length cd]) (fun W hW => ?_) (hK _ ?_)
            · clear hK
              have q0 := hW.cell cPd0_7
              have q1 := hW.cell cPd1_7
              clear hW
              go_simp
            clear hK K
            simp only [Act.put, List.setIfInBounds_toArray, List.set_cons_zero, List.set_cons_succ]
            refine BigFrame.wpQuiet_want (by rfl) (fun K hK => ?_)
            refine quiet_value (.int .i64 x.m) (fun W hW => ?_) (hK _ ?_)
            · clear hK
              clear hW
              go_simp
            clear hK K
            simp only [Act.put, List.setIfInBounds_toArray, List.set_cons_zero, List.set_cons_succ]
            refine BigFrame.wpQuiet_want (by rfl) (fun K hK => ?_)
            refine quiet_call 20 #[.agg #[.int .i64 a1, .slice Ad L1.length cd], .int .i64 x.m] (.int .i64 x.q) (fun W => ?_) (fun W hW => ?_) (hK _ ?_)
            · clear hK
              go_simp
            · refine ((HV.out ▸ (marked_calls a1 L1 Ad cd wr.heap.size x.m W (HXd.out.below hW) hW.size) : Calls Tryd.prog _ _ W fun e w' => e = .returned (.int .i64 x.q) ∧ Below W.heap.size W w')).mono ?_
              rintro e w' ⟨rfl, hb⟩
              exact ⟨rfl, hW.trans hb⟩
            clear hK K
            simp only [Act.put, List.setIfInBounds_toArray, List.set_cons_zero, List.set_cons_succ]
            refine BigFrame.wpQuiet_want (by rfl) (fun K hK => ?_)
            refine quiet_value (.pointer (some ⟨ga, 1, none⟩)) (fun W hW => ?_) (hK _ ?_)
            · clear hK
              clear hW
              go_simp
            clear hK K
            simp only [Act.put, List.setIfInBounds_toArray, List.set_cons_zero, List.set_cons_succ]
            refine BigFrame.wpQuiet_want (by rfl) (fun K hK => ?_)
            refine quiet_value (.slice (some ad) l.length c) (fun W hW => ?_) (hK _ ?_)
            · clear hK
              have q0 := hW.cell cPa1_7
              clear hW
              go_simp
            clear hK K
            simp only [Act.put, List.setIfInBounds_toArray, List.set_cons_zero, List.set_cons_succ]
            refine BigFrame.wpQuiet_want (by rfl) (fun K hK => ?_)
            refine quiet_value (.int .i64 k) (fun W hW => ?_) (hK _ ?_)
            · clear hK
              clear hW
              go_simp
            clear hK K
            simp only [Act.put, List.setIfInBounds_toArray, List.set_cons_zero, List.set_cons_succ]
            refine BigFrame.wpQuiet_want (by rfl) (fun K hK => ?_)
            refine quiet_value (.pointer (some (ad.add (k * 2)))) (fun W hW => ?_) (hK _ ?_)
            · clear hK
              clear hW
              go_simp
            clear hK K
            simp only [Act.put, List.setIfInBounds_toArray, List.set_cons_zero, List.set_cons_succ]
            refine BigFrame.wpQuiet_want (by rfl) (fun K hK => ?_)
            refine quiet_value (.pointer (some ⟨(ad.add (k * 2)).block, (ad.add (k * 2)).off + 1, none⟩)) (fun W hW => ?_) (hK _ ?_)
            · clear hK
              clear hW
              go_simp
            clear hK K
            simp only [Act.put, List.setIfInBounds_toArray, List.set_cons_zero, List.set_cons_succ]
            refine BigFrame.wpQuiet_want (by rfl) (fun K hK => ?_)
            refine quiet_value (.int .i64 x.q) (fun W hW => ?_) (hK _ ?_)
            · clear hK
              have q0 := hW.cell e1
              clear hW
              go_simp
            clear hK K
            simp only [Act.put, List.setIfInBounds_toArray, List.set_cons_zero, List.set_cons_succ]
            refine BigFrame.wpQuiet_want (by rfl) (fun K hK => ?_)
            refine quiet_value (.bool false) (fun W hW => ?_) (hK _ ?_)
            · clear hK
              clear hW
              go_simp
            clear hK K
            simp only [Act.put, List.setIfInBounds_toArray, List.set_cons_zero, List.set_cons_succ]
            refine BigFrame.wpQuiet_want (by rfl) (fun K hK => ?_)
            refine quiet_value (.bool false) (fun W hW => ?_) (hK _ ?_)
            · clear hK
              clear hW
              go_simp
            clear hK K
            simp only [Act.put, List.setIfInBounds_toArray, List.set_cons_zero, List.set_cons_succ]
            refine wpQuiet_nil ?_
            intro WQ hiWQ
            clear cPa0_7 cPa1_7 cPd0_7 cPd1_7
            have HBQ := Lib.hid (HBR.out.trans (hiWQ.mono HBR.out.size))
            clear hiWQ e0 e1 HXd
            go_wp2_with (fail)
            go_roundw
            case rel => exact ⟨k + 1, by omega, by go_num, HBQ.out⟩
            case measure => simp [intOf]; omega
        · obtain rfl : k = l.length := by omega
          clear HBR hlt
          have hl1 : L1.length ≤ 8 := HRD.out.len
          go_wp2_with (fail)
          clear cPa0_7 cPa1_7 cPd0_7 cPd1_7
          go_loopw [13] (fun i wq => ∃ k : Nat, k ≤ L1.length ∧ i = .int .i64 k ∧ Below wr.heap.size wr wq) (fun i _ => L1.length - (intOf i).toNat)
          case atStart => exact ⟨0, Nat.zero_le _, rfl, Below.refl _ _⟩
          case round =>
            obtain ⟨k, hk, rfl, hbr⟩ := hrel
            rename World => wq
            have HBR := Lib.hid hbr
            have Ha_8 := Lib.hid (Ha_7.out.below (hbr.mono HBB_7.out))
            have HBB_8 : Hid (B ≤ wq.heap.size) := Lib.hid (Nat.le_trans HBB_7.out hbr.size)
            have HG_8 := Lib.hid (HG_7.out.below hbr)
            have HB_8 := Lib.hid (HB_7.out.trans (hbr.mono HB_7.out.size))
            have Pa_8 := Lib.hid (Pa_7.out.below hbr Pa_7.out.lt)
            have Md_8 := Lib.hid (Md_7.out.below hbr)
            have Pd_8 := Lib.hid (Pd_7.out.below hbr Pd_7.out.lt)
            clear hbr
            have cPa0_8 : wq.cell? ⟨ga, 0, none⟩ = some (.int .i64 a) := Pa_8.out.cell 0
            have cPa1_8 : wq.cell? ⟨ga, 1, none⟩ = some (.slice A l.length c) := Pa_8.out.cell 1
            have cPd0_8 : wq.cell? ⟨gd, 0, none⟩ = some (.int .i64 a1) := Pd_8.out.cell 0
            have cPd1_8 : wq.cell? ⟨gd, 1, none⟩ = some (.slice Ad L1.length cd) := Pd_8.out.cell 1
            by_cases hlt : k < L1.length
            · have hkl : (k : Int) < L1.length := by omega
              obtain ⟨ad, rfl, hadb, e0, e1⟩ := marks_at (PosOK.right Md_8.out HRD.out).r hlt
              have hxq := HIN.out L1[k] (by simp)
              obtain ⟨x, hx⟩ : ∃ x, L1[k] = x := ⟨_, rfl⟩
              rw [hx] at e0 hxq
              obtain ⟨mv, hmv⟩ : ∃ v, markedS a l x.m = v := ⟨_, rfl⟩
              rw [hmv] at hxq
              have HV := Lib.hid hmv
              have hmb : (mv == 0) = false := by simpa using hxq
              clear hx hxq e1 hmv
              go_wp2_with (fail)
              refine wp_region_class (InB wq) (by kernel_rfl) (by kernel_rfl) (InB.start _) ?_
              refine BigFrame.wpQuiet_want (by rfl) (fun K hK => ?_)
              refine quiet_value (.agg #[.int .i64 a, .slice A l.length c]) (fun W hW => ?_) (hK _ ?_)
              · clear hK
                have q0 := hW.cell cPa0_8
                have q1 := hW.cell cPa1_8
                clear hW
                go_simp
              clear hK K
              simp only [Act.put, List.setIfInBounds_toArray, List.set_cons_zero, List.set_cons_succ]
              refine BigFrame.wpQuiet_want (by rfl) (fun K hK => ?_)
              refine quiet_value (.pointer (some ⟨gd, 1, none⟩)) (fun W hW => ?_) (hK _ ?_)
              · clear hK
                clear hW
                go_simp
              clear hK K
              simp only [Act.put, List.setIfInBounds_toArray, List.set_cons_zero, List.set_cons_succ]
              refine BigFrame.wpQuiet_want (by rfl) (fun K hK => ?_)
              refine quiet_value (.slice (some ad) L1.length cd) (fun W hW => ?_) (hK _ ?_)
              · clear hK
                have q0 := hW.cell cPd1_8
                clear hW
                go_simp
              clear hK K
              simp only [Act.put, List.setIfInBounds_toArray, List.set_cons_zero, List.set_cons_succ]
              refine BigFrame.wpQuiet_want (by rfl) (fun K hK => ?_)
              refine quiet_value (.int .i64 k) (fun W hW => ?_) (hK _ ?_)
              · clear hK
                clear hW
                go_simp
              clear hK K
              simp only [Act.put, List.setIfInBounds_toArray, List.set_cons_zero, List.set_cons_succ]
              refine BigFrame.wpQuiet_want (by rfl) (fun K hK => ?_)
              refine quiet_value (.pointer (some (ad.add (k * 2)))) (fun W hW => ?_) (hK _ ?_)
              · clear hK
                clear hW
                go_simp
              clear hK K
              simp only [Act.put, List.setIfInBounds_toArray, List.set_cons_zero, List.set_cons_succ]
              refine BigFrame.wpQuiet_want (by rfl) (fun K hK => ?_)
              refine quiet_value (.pointer (some (ad.add (k * 2)))) (fun W hW => ?_) (hK _ ?_)
              · clear hK
                clear hW
                go_simp
              clear hK K
              simp only [Act.put, List.setIfInBounds_toArray, List.set_cons_zero, List.set_cons_succ]
              refine BigFrame.wpQuiet_want (by rfl) (fun K hK => ?_)
              refine quiet_value (.int .i64 x.m) (fun W hW => ?_) (hK _ ?_)
              · clear hK
                have q0 := hW.cell e0
                clear hW
                go_simp
              clear hK K
              simp only [Act.put, List.setIfInBounds_toArray, List.set_cons_zero, List.set_cons_succ]
              refine BigFrame.wpQuiet_want (by rfl) (fun K hK => ?_)
              refine quiet_call 20 #[.agg #[.int .i64 a, .slice A l.length c], .int .i64 x.m] (.int .i64 mv) (fun W => ?_) (fun W hW => ?_) (hK _ ?_)
              · clear hK
                go_simp
              · refine ((HV.out ▸ (marked_calls a l A c B x.m W (Ha_8.out.below (hW.mono HBB_8.out)) (Nat.le_trans HBB_8.out hW.size)) : Calls Tryd.prog _ _ W fun e w' => e = .returned (.int .i64 mv) ∧ Below W.heap.size W w')).mono ?_
                rintro e w' ⟨rfl, hb⟩
                exact ⟨rfl, hW.trans hb⟩
              clear hK K
              simp only [Act.put, List.setIfInBounds_toArray, List.set_cons_zero, List.set_cons_succ]
              refine BigFrame.wpQuiet_want (by rfl) (fun K hK => ?_)
              refine quiet_value (.bool false) (fun W hW => ?_) (hK _ ?_)
              · clear hK
                clear hW
                go_simp
              clear hK K
              simp only [Act.put, List.setIfInBounds_toArray, List.set_cons_zero, List.set_cons_succ]
              refine wpQuiet_nil ?_
              intro WQ hiWQ
              clear cPa0_8 cPa1_8 cPd0_8 cPd1_8
              have HBQ := Lib.hid (HBR.out.trans (hiWQ.mono HBR.out.size))
              clear hiWQ e0
              go_wp2_with (fail)
              go_roundw
              case rel => exact ⟨k + 1, by omega, by go_num, HBQ.out⟩
              case measure => simp [intOf]; omega
            · obtain rfl : k = L1.length := by omega
              have hwt : IntKind.i64.wrap (tp - q) = tp - q := IntWalk.i64_in _ (by have := NUM.out; omega)
              have HXd := Lib.hid (PosOK.right Md_8.out HRD.out)
              have HCK : Hid (outV (chk a1 L1) = .nilIface) := by show outV _ = _; unfold outV chk; simp [check_of_right HRD.out]
              go_wp2_with (fail)
              refine wp_region_class (InB wq) (by kernel_rfl) (by kernel_rfl) (InB.start _) ?_
              refine BigFrame.wpQuiet_want (by rfl) (fun K hK => ?_)
              refine quiet_value (.agg #[.int .i64 a1, .slice Ad L1.length cd]) (fun W hW => ?_) (hK _ ?_)
              · clear hK
                have q0 := hW.cell cPd0_8
                have q1 := hW.cell cPd1_8
                clear hW
                go_simp
              clear hK K
              simp only [Act.put, List.setIfInBounds_toArray, List.set_cons_zero, List.set_cons_succ]
              refine BigFrame.wpQuiet_want (by rfl) (fun K hK => ?_)
              refine quiet_call 18 #[.agg #[.int .i64 a1, .slice Ad L1.length cd]] (.int .i64 (tp - q)) (fun W => ?_) (fun W hW => ?_) (hK _ ?_)
              · clear hK
                go_simp
              · refine ((TD.out ▸ (totalX_calls a1 L1 Ad cd wq.heap.size W (HXd.out.below hW) hW.size) : Calls Tryd.prog _ _ W fun e w' => e = .returned (.int .i64 (tp - q)) ∧ Below W.heap.size W w')).mono ?_
                rintro e w' ⟨rfl, hb⟩
                exact ⟨rfl, hW.trans hb⟩
              clear hK K
              simp only [Act.put, List.setIfInBounds_toArray, List.set_cons_zero, List.set_cons_succ]
              refine BigFrame.wpQuiet_want (by rfl) (fun K hK => ?_)
              refine quiet_value (.agg #[.int .i64 a, .slice A l.length c]) (fun W hW => ?_) (hK _ ?_)
              · clear hK
                have q0 := hW.cell cPa0_8
                have q1 := hW.cell cPa1_8
                clear hW
                go_simp
              clear hK K
              simp only [Act.put, List.setIfInBounds_toArray, List.set_cons_zero, List.set_cons_succ]
              refine BigFrame.wpQuiet_want (by rfl) (fun K hK => ?_)
              refine quiet_call 18 #[.agg #[.int .i64 a, .slice A l.length c]] (.int .i64 tp) (fun W => ?_) (fun W hW => ?_) (hK _ ?_)
              · clear hK
                go_simp
              · refine ((TA.out ▸ (totalX_calls a l A c B W (Ha_8.out.below (hW.mono HBB_8.out)) (Nat.le_trans HBB_8.out hW.size)) : Calls Tryd.prog _ _ W fun e w' => e = .returned (.int .i64 tp) ∧ Below W.heap.size W w')).mono ?_
                rintro e w' ⟨rfl, hb⟩
                exact ⟨rfl, hW.trans hb⟩
              clear hK K
              simp only [Act.put, List.setIfInBounds_toArray, List.set_cons_zero, List.set_cons_succ]
              refine BigFrame.wpQuiet_want (by rfl) (fun K hK => ?_)
              refine quiet_value (.int .i64 q) (fun W hW => ?_) (hK _ ?_)
              · clear hK
                clear hW
                go_simp
              clear hK K
              simp only [Act.put, List.setIfInBounds_toArray, List.set_cons_zero, List.set_cons_succ]
              refine BigFrame.wpQuiet_want (by rfl) (fun K hK => ?_)
              refine quiet_value (.int .i64 (tp - q)) (fun W hW => ?_) (hK _ ?_)
              · clear hK
                clear hW
                go_simp
              clear hK K
              simp only [Act.put, List.setIfInBounds_toArray, List.set_cons_zero, List.set_cons_succ]
              refine BigFrame.wpQuiet_want (by rfl) (fun K hK => ?_)
              refine quiet_value (.bool true) (fun W hW => ?_) (hK _ ?_)
              · clear hK
                clear hW
                go_simp
              clear hK K
              simp only [Act.put, List.setIfInBounds_toArray, List.set_cons_zero, List.set_cons_succ]
              refine BigFrame.wpQuiet_want (by rfl) (fun K hK => ?_)
              refine quiet_value (.bool true) (fun W hW => ?_) (hK _ ?_)
              · clear hK
                clear hW
                go_simp
              clear hK K
              simp only [Act.put, List.setIfInBounds_toArray, List.set_cons_zero, List.set_cons_succ]
              refine BigFrame.wpQuiet_want (by rfl) (fun K hK => ?_)
              refine quiet_value (.agg #[.int .i64 a1, .slice Ad L1.length cd]) (fun W hW => ?_) (hK _ ?_)
              · clear hK
                have q0 := hW.cell cPd0_8
                have q1 := hW.cell cPd1_8
                clear hW
                go_simp
              clear hK K
              simp only [Act.put, List.setIfInBounds_toArray, List.set_cons_zero, List.set_cons_succ]
              refine BigFrame.wpQuiet_want (by rfl) (fun K hK => ?_)
              refine quiet_call 16 #[.agg #[.int .i64 a1, .slice Ad L1.length cd]] (.nilIface) (fun W => ?_) (fun W hW => ?_) (hK _ ?_)
              · clear hK
                go_simp
              · refine ((HCK.out ▸ (check_calls a1 L1 Ad cd wq.heap.size W (HXd.out.below hW) hW.size (HG_8.out.below hW)) : Calls Tryd.prog _ _ W fun e w' => e = .returned .nilIface ∧ Below W.heap.size W w')).mono ?_
                rintro e w' ⟨rfl, hb⟩
                exact ⟨rfl, hW.trans hb⟩
              clear hK K
              simp only [Act.put, List.setIfInBounds_toArray, List.set_cons_zero, List.set_cons_succ]
              refine BigFrame.wpQuiet_want (by rfl) (fun K hK => ?_)
              refine quiet_value (.bool true) (fun W hW => ?_) (hK _ ?_)
              · clear hK
                clear hW
                go_simp
              clear hK K
              simp only [Act.put, List.setIfInBounds_toArray, List.set_cons_zero, List.set_cons_succ]
              refine BigFrame.wpQuiet_want (by rfl) (fun K hK => ?_)
              refine quiet_value (.bool true) (fun W hW => ?_) (hK _ ?_)
              · clear hK
                clear hW
                go_simp
              clear hK K
              simp only [Act.put, List.setIfInBounds_toArray, List.set_cons_zero, List.set_cons_succ]
              refine BigFrame.wpQuiet_want (by rfl) (fun K hK => ?_)
              refine quiet_value (.bool true) (fun W hW => ?_) (hK _ ?_)
              · clear hK
                clear hW
                go_simp
              clear hK K
              simp only [Act.put, List.setIfInBounds_toArray, List.set_cons_zero, List.set_cons_succ]
              refine wpQuiet_nil ?_
              intro WE hiWE
              clear cPa0_8 cPa1_8 cPd0_8 cPd1_8
              have Ha_9 := Lib.hid (Ha_8.out.below (hiWE.mono HBB_8.out))
              have HBB_9 : Hid (B ≤ WE.heap.size) := Lib.hid (Nat.le_trans HBB_8.out hiWE.size)
              have HG_9 := Lib.hid (HG_8.out.below hiWE)
              have HB_9 := Lib.hid (HB_8.out.trans (hiWE.mono HB_8.out.size))
              have Pa_9 := Lib.hid (Pa_8.out.below hiWE Pa_8.out.lt)
              have Md_9 := Lib.hid (Md_8.out.below hiWE)
              have Pd_9 := Lib.hid (Pd_8.out.below hiWE Pd_8.out.lt)
              go_wp2_with (fail)
              go_ret
              exact ⟨rfl, HB_9.out⟩
  · obtain ⟨rd, hrd⟩ : ∃ r, debitS a l q n = r := ⟨_, rfl⟩
    rw [hrd] at hmd hzd ⊢
    obtain ⟨red, rpd, rad, rld⟩ := rd
    dsimp only at hmd hzd ⊢
    have HZd := Lib.hid hzd
    have HRRd := Lib.hid hrd
    clear hzd hrd
    have Md_2 := Lib.hid (hmd)
    clear hmd
    obtain ⟨gd, hgd⟩ : ∃ g, w2.heap.size = g := ⟨_, rfl⟩
    obtain ⟨W3, hW3⟩ : ∃ X, w2.alloc (.cells #[.int .i64 rad, .slice Ad rld.length cd] 24) = X := ⟨_, rfl⟩
    have hbW3 : Below w2.heap.size w2 W3 := hW3 ▸ (Below.refl _ _).alloc (Nat.le_refl _) _
    have hnd : Blk W3 gd 24 #[.int .i64 rad, .slice Ad rld.length cd] := by rw [← hW3]; exact blkNew hgd
    have Ha_3 := Lib.hid (Ha_2.out.below (hbW3.mono HBB_2.out))
    have HBB_3 : Hid (B ≤ W3.heap.size) := Lib.hid (Nat.le_trans HBB_2.out hbW3.size)
    have HG_3 := Lib.hid (HG_2.out.below hbW3)
    have HB_3 := Lib.hid (HB_2.out.trans (hbW3.mono HB_2.out.size))
    have Pa_3 := Lib.hid (Pa_2.out.below hbW3 Pa_2.out.lt)
    have Md_3 := Lib.hid (Md_2.out.below hbW3)
    have Pd_3 := Lib.hid (hnd)
    clear hbW3 hnd
    go_wp2_with (fail)
    refine (works_calls W3 HG_3.out).mono ?_
    rintro e w4 ⟨rfl, hbw4⟩
    clear hW3 hgd
    have Ha_4 := Lib.hid (Ha_3.out.below (hbw4.mono HBB_3.out))
    have HBB_4 : Hid (B ≤ w4.heap.size) := Lib.hid (Nat.le_trans HBB_3.out hbw4.size)
    have HG_4 := Lib.hid (HG_3.out.below hbw4)
    have HB_4 := Lib.hid (HB_3.out.trans (hbw4.mono HB_3.out.size))
    have Pa_4 := Lib.hid (Pa_3.out.below hbw4 Pa_3.out.lt)
    have Md_4 := Lib.hid (Md_3.out.below hbw4)
    have Pd_4 := Lib.hid (Pd_3.out.below hbw4 Pd_3.out.lt)
    go_wp2_with (fail)
    go_ret
    exact ⟨rfl, HB_4.out⟩
end Go.Proofs.YtcgcgekefhhjhaaDoor
