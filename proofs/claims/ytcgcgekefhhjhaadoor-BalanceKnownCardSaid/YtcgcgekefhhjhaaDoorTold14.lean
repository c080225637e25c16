/- custodykit's Plain at balance's refusals, Place and At at a fault; custodylaw14's told and works by contracts (printed by gen_told14.py). -/
import Derived.Test.YtcgcgekefhhjhaaDoorCredit14
import Derived.Test.YtcgcgekefhhjhaaDoorRef14
namespace Go.Proofs.YtcgcgekefhhjhaaDoor
set_option linter.unusedSimpArgs false
set_option linter.unusedVariables false
open Go.RowKit

set_option maxRecDepth 100000 in
set_option maxHeartbeats 2000000 in
theorem plain_refused (m n : Int) (w : World) (hm1 : 1 ≤ m) (hm2 : m ≤ 24) (hG : HG w) : Calls Tryd.prog 37 #[.iface 87 (.agg #[.iface 65 (.int .i64 m)]), .int .i64 n] w fun e w' => e = .returned (.bool (m == n)) ∧ Below w.heap.size w w' := by
  have HGH := Lib.hid hG
  clear hG
  rcases (by cases (m == n) <;> simp : (m == n) = true ∨ (m == n) = false) with h | h
  all_goals
    rw [h]
    go_enter Tryd.func37, Tryd.ntmps37
    go_wp2_with (first | (go_at_call 57; refine (num_refused m _ hm1 hm2).mono ?_; rintro e w' ⟨rfl, hb0⟩) | (go_at_call 58; refine (as_refused m _ _ ((HGH.out.alloc _).below hb0)).mono ?_; rintro e w1 ⟨rfl, hb⟩))
    go_ret
    first
    | exact ⟨rfl, ((Below.refl _ _).alloc (Nat.le_refl _) _).trans (hb0.mono (by simp))⟩
    | exact ⟨rfl, (((Below.refl _ _).alloc (Nat.le_refl _) _).trans (hb0.mono (by simp))).trans (hb.mono (by have := hb0.size; simp at this; omega))⟩


set_option maxRecDepth 100000 in
set_option maxHeartbeats 4000000 in
theorem place_fault (m li pl : Int) (w : World) (hm1 : 1 ≤ m) (hm2 : m ≤ 24) (hG : HG w) :
    Calls Tryd.prog 59 #[.iface 78 (.agg #[.int .i64 m, .int .i64 li, .int .i64 pl])] w fun e w' => e = .returned (.tuple #[.int .i64 li, .int .i64 pl, .bool true]) ∧ Below w.heap.size w w' := by
  obtain ⟨gf, hgf⟩ : ∃ g, w.heap.size = g := ⟨_, rfl⟩
  obtain ⟨W1, hW1⟩ : ∃ W, w.alloc (.cells #[.int .i64 0, .int .i64 0, .int .i64 0] 78) = W := ⟨_, rfl⟩
  have hb1 : Below w.heap.size w W1 := hW1 ▸ (Below.refl _ _).alloc (Nat.le_refl _) _
  have hf : Blk W1 gf 78 #[.int .i64 0, .int .i64 0, .int .i64 0] := by rw [← hW1]; exact blkNew hgf
  have HF := Lib.hid hf
  have HB1 := Lib.hid hb1
  have HG1 := Lib.hid (hG.below hb1)
  have HGF := Lib.hid hgf
  clear hf hb1 hG
  go_enter Tryd.func59, Tryd.ntmps59
  go_wp2_with (go_at_call 58; refine (as_hit_f2 m li pl gf _ _ _ W1 HG1.out HF.out).mono ?_; rintro e w2 ⟨rfl, hf2, hk2, hb2⟩; clear hk2)
  have HB2 := Lib.hid (HB1.out.trans (hb2 w.heap.size (by have := HGF.out; omega)))
  have p0 : w2.cell? ⟨gf, 0, none⟩ = some (.int .i64 m) := hf2.cell 0
  have p1 : w2.cell? ⟨gf, 1, none⟩ = some (.int .i64 li) := hf2.cell 1
  have p2 : w2.cell? ⟨gf, 2, none⟩ = some (.int .i64 pl) := hf2.cell 2
  obtain ⟨WD, hWD⟩ : ∃ W, w2.drew = W := ⟨_, rfl⟩
  have HFD := Lib.hid (hWD ▸ hf2.drew)
  have HBD := Lib.hid (hWD ▸ HB2.out.drew)
  have HWD := Lib.hid hWD
  clear hf2 hb2 hWD hW1 hgf
  go_upto_region 4 with fail
  go_region_held3 (fun w' => w'.cell? ⟨gf, 0, none⟩ = some (.int .i64 m) ∧ w'.cell? ⟨gf, 1, none⟩ = some (.int .i64 li) ∧ w'.cell? ⟨gf, 2, none⟩ = some (.int .i64 pl)) (first | go_keep | fail)
    (first | (go_at_call 57; rw [HWD.out]; refine (num_fault m li pl WD hm1 hm2).mono ?_; rintro e w3 ⟨rfl, hb3⟩; have hf3 := HFD.out.below hb3 HFD.out.lt; have r0 : w3.cell? ⟨gf, 0, none⟩ = some (.int .i64 m) := hf3.cell 0; have r1 : w3.cell? ⟨gf, 1, none⟩ = some (.int .i64 li) := hf3.cell 1; have r2 : w3.cell? ⟨gf, 2, none⟩ = some (.int .i64 pl) := hf3.cell 2; have HB3 := Lib.hid (HBD.out.trans (hb3.mono HBD.out.size)); clear hf3 hb3))
  go_wp2
  go_ret3
  exact ⟨rfl, HB3.out⟩

set_option maxRecDepth 100000 in
set_option maxHeartbeats 4000000 in
theorem at_fault (m li pl : Int) (w : World) (hm1 : 1 ≤ m) (hm2 : m ≤ 24) (hG : HG w) :
    Calls Tryd.prog 41 #[.iface 78 (.agg #[.int .i64 m, .int .i64 li, .int .i64 pl]), .int .i64 m, .int .i64 li, .int .i64 pl] w fun e w' => e = .returned (.bool true) ∧ Below w.heap.size w w' := by
  have hm0 : ¬ m = 0 := by omega
  have HGG := Lib.hid hG
  clear hG
  go_enter Tryd.func41, Tryd.ntmps41
  go_wp2_with (first | (go_at_call 59; refine (place_fault m li pl _ hm1 hm2 HGG.out).mono ?_; rintro e w1 ⟨rfl, hb1⟩) | (go_at_call 57; refine (num_fault m li pl _ hm1 hm2).mono ?_; rintro e w2 ⟨rfl, hb2⟩))
  go_ret
  exact ⟨rfl, hb1.trans (hb2.mono hb1.size)⟩

/-- An answer's error is told as the position's wants it. -/
def fitsE (a : Int) (l : List Mk) (b : Int × Option Int) : Prop :=
  ((posCheck a l).1 ≠ 0 ∧ b = chk a l) ∨ ((posCheck a l).1 = 0 ∧ b.2 = none ∧ 0 ≤ b.1 ∧ b.1 ≤ 24)
set_option maxRecDepth 100000 in
set_option maxHeartbeats 4000000 in
theorem told_calls (b : Int × Option Int) (n : Int) (a : Int) (l : List Mk) (A : Option Addr) (c B : Nat) (w : World) (h : PosOK w B a l A) (hB : B ≤ w.heap.size) (hG : HG w) (hf : fitsE a l b) :
    Calls Tryd.prog 17 #[outV b, .int .i64 n, .agg #[.int .i64 a, .slice A l.length c]] w fun e w' => e = .returned (.bool (decide (b.1 = n))) ∧ Below w.heap.size w w' := by
  obtain ⟨gp, hgp⟩ : ∃ g, w.heap.size = g := ⟨_, rfl⟩
  obtain ⟨W1, hW1⟩ : ∃ W, w.alloc (.cells #[.int .i64 a, .slice A l.length c] 24) = W := ⟨_, rfl⟩
  have hb1 : Below w.heap.size w W1 := hW1 ▸ (Below.refl _ _).alloc (Nat.le_refl _) _
  have hp : Blk W1 gp 24 #[.int .i64 a, .slice A l.length c] := by rw [← hW1]; exact blkNew hgp
  have H := Lib.hid (h.below (hb1.mono hB))
  have HBB : Hid (B ≤ W1.heap.size) := Lib.hid (Nat.le_trans hB hb1.size)
  have HB1 := Lib.hid hb1
  have HG1 := Lib.hid (hG.below hb1)
  have p0 : W1.cell? ⟨gp, 0, none⟩ = some (.int .i64 a) := hp.cell 0
  have p1 : W1.cell? ⟨gp, 1, none⟩ = some (.slice A l.length c) := hp.cell 1
  have hrg := posCheck_range a l
  clear h hb1 hp hB hG
  rcases hf with ⟨h0, rfl⟩ | ⟨h0, h2, h3, h4⟩
  · have hv : outV (chk a l) = .iface 78 (.agg #[.int .i64 (posCheck a l).1, .int .i64 0, .int .i64 (posCheck a l).2]) := by
      unfold outV chk
      rw [if_neg h0, if_neg h0]
      rfl
    rw [hv]
    have hc1 : (chk a l).1 = (posCheck a l).1 := rfl
    rw [hc1]
    obtain ⟨no, hno⟩ : ∃ x, (posCheck a l).1 = x := ⟨_, rfl⟩
    obtain ⟨pl, hpl⟩ : ∃ x, (posCheck a l).2 = x := ⟨_, rfl⟩
    have HC := Lib.hid (show posCheck a l = (no, pl) by rw [← hno, ← hpl])
    rw [hno] at h0 hrg ⊢
    rw [hpl]
    clear hv hc1 hno hpl
    have h1 : 1 ≤ no := by omega
    have hrg2 := hrg.2
    clear hrg
    by_cases hn : n = no
    · subst hn
      have hd : decide (n = n) = true := by simp
      rw [hd]
      clear hd
      go_enter Tryd.func17, Tryd.ntmps17
      go_wp2_with (first | (go_at_call 15; refine (rcheck_calls a l A c B W1 H.out HBB.out).mono ?_; rintro e w2 ⟨rfl, hb2⟩; rw [HC.out]) | (go_at_call 41; refine (at_fault n 0 pl _ h1 hrg2 (HG1.out.below hb2)).mono ?_; rintro e w3 ⟨rfl, hb3⟩))
      go_ret
      exact ⟨rfl, hgp ▸ (HB1.out.trans (hb2.mono HB1.out.size)).trans (hb3.mono (Nat.le_trans HB1.out.size hb2.size))⟩
    · have hd : decide (no = n) = false := by simp; omega
      rw [hd]
      clear hd
      go_enter Tryd.func17, Tryd.ntmps17
      go_wp2_with (first | (go_at_call 15; refine (rcheck_calls a l A c B W1 H.out HBB.out).mono ?_; rintro e w2 ⟨rfl, hb2⟩; rw [HC.out]))
      go_ret
      exact ⟨rfl, hgp ▸ (HB1.out.trans (hb2.mono HB1.out.size))⟩
  · have HC := Lib.hid (check_of_right (right_of_check H.out.a1 h0))
    obtain ⟨b1, b2⟩ := b
    obtain rfl : b2 = none := h2
    by_cases hz : b1 = 0
    · subst hz
      have hv : outV (0, none) = .nilIface := rfl
      have hd : decide ((0 : Int) = n) = (n == 0) := by rw [Bool.eq_iff_iff]; simp; omega
      rw [hv]
      simp only
      rw [hd]
      obtain ⟨r, hr⟩ : ∃ r, (n == 0) = r := ⟨_, rfl⟩
      rw [hr]
      have HR := Lib.hid hr
      clear hv hd hr hrg
      go_enter Tryd.func17, Tryd.ntmps17
      go_wp2_with (first | (go_at_call 15; refine (rcheck_calls a l A c B W1 H.out HBB.out).mono ?_; rintro e w2 ⟨rfl, hb2⟩; rw [HC.out]) | (go_at_call 37; refine (plain_nil n _).mono ?_; rintro e w3 ⟨rfl, hb3⟩; rw [HR.out]))
      go_ret
      exact ⟨rfl, hgp ▸ (HB1.out.trans (hb2.mono HB1.out.size)).trans (hb3.mono (Nat.le_trans HB1.out.size hb2.size))⟩
    · have hv : outV (b1, none) = .iface 87 (.agg #[.iface 65 (.int .i64 b1)]) := by unfold outV; rw [if_neg hz]; rfl
      have hd : decide (b1 = n) = (b1 == n) := by rw [Bool.eq_iff_iff]; simp
      rw [hv]
      simp only at h3 h4 ⊢
      rw [hd]
      obtain ⟨r, hr⟩ : ∃ r, (b1 == n) = r := ⟨_, rfl⟩
      rw [hr]
      have HR := Lib.hid hr
      clear hv hd hr hrg
      have hb11 : 1 ≤ b1 := by omega
      go_enter Tryd.func17, Tryd.ntmps17
      go_wp2_with (first | (go_at_call 15; refine (rcheck_calls a l A c B W1 H.out HBB.out).mono ?_; rintro e w2 ⟨rfl, hb2⟩; rw [HC.out]) | (go_at_call 37; refine (plain_refused b1 n _ hb11 h4 (HG1.out.below hb2)).mono ?_; rintro e w3 ⟨rfl, hb3⟩; rw [HR.out]))
      go_ret
      exact ⟨rfl, hgp ▸ (HB1.out.trans (hb2.mono HB1.out.size)).trans (hb3.mono (Nat.le_trans HB1.out.size hb2.size))⟩

theorem right_nil {a : Int} (h : 0 ≤ a) (h2 : a ≤ 9223372036854775807) : Right a [] := ⟨h, by simp, by simp, by simp, by simp [sumQ, MaxA]; exact h2⟩
theorem credit_ok {a q : Int} {l : List Mk} (h : Right a l) (hq : 1 ≤ q) (hs : a + sumQ l + q ≤ MaxA) : creditS a l q = ⟨0, none, a + q, l⟩ := by
  unfold creditS
  rw [begin_ok (by rw [check_of_right h]) hq (Int.le_refl 0) (by decide), if_pos rfl, right_total h, if_neg (by omega)]
theorem credit_low {a q : Int} {l : List Mk} (h : Right a l) (hq : q < 1) : creditS a l q = .bad (16, none) := by
  have hb : beginS a l q 0 0 = (16, none) := by unfold beginS; rw [check_of_right h, if_pos rfl, if_pos hq]
  unfold creditS
  rw [hb, if_neg (by decide)]
theorem PosOK.own {w : World} {B : Nat} {a : Int} {l : List Mk} {A : Option Addr} {c : Nat} (h : OwnM w B (.slice A l.length c) l) (ha : a ≤ 9223372036854775807) (hq : ∀ x ∈ l, x.q ≤ 9223372036854775807) (hl : l.length * 16 ≤ 140737488351232) : PosOK w w.heap.size a l A :=
  ⟨Reads.of_own h, ha, hq, hl⟩

set_option maxRecDepth 100000 in
set_option maxHeartbeats 4000000 in
theorem works_calls (w : World) (hG : HG w) : Calls Tryd.prog 14 #[] w fun e w' => e = .returned (.bool true) ∧ Below w.heap.size w w' := by
  have hc1 := credit_ok (q := 5) (right_nil (a := 0) (by decide) (by decide)) (by decide) (by decide)
  have hc2 := credit_low (q := 0) (right_nil (a := 5) (by decide) (by decide)) (by decide)
  have ht := right_total (right_nil (a := 5) (by decide) (by decide))
  have HC1 := Lib.hid hc1
  have HC2 := Lib.hid hc2
  have HT := Lib.hid ht
  have HGG := Lib.hid hG
  clear hc1 hc2 ht hG
  go_enter Tryd.func14, Tryd.ntmps14
  go_wp2_with (fail)
  refine (credit_calls 0 [] none 0 0 5 w ⟨Reads.none_, by decide, by simp, by simp⟩ (Nat.zero_le _) HGG.out (by decide)).mono ?_
  rintro e w1 ⟨hb1, v1, rfl, hm1⟩
  rw [HC1.out] at hm1 ⊢
  obtain ⟨A1, c1, rfl⟩ := own_slice hm1
  have HB1 := Lib.hid hb1
  have HM1 := Lib.hid hm1
  obtain ⟨g1, hg1⟩ : ∃ g, w1.heap.size = g := ⟨_, rfl⟩
  obtain ⟨W2, hW2⟩ : ∃ W, w1.alloc (.cells #[.int .i64 5, .slice A1 0 c1] 24) = W := ⟨_, rfl⟩
  have hb2 : Below w1.heap.size w1 W2 := hW2 ▸ (Below.refl _ _).alloc (Nat.le_refl _) _
  have hp2 : Blk W2 g1 24 #[.int .i64 5, .slice A1 0 c1] := by rw [← hW2]; exact blkNew hg1
  have HM2 := Lib.hid (hm1.below hb2)
  have HB2 := Lib.hid (HB1.out.trans (hb2.mono HB1.out.size))
  have HP2 := Lib.hid hp2
  have p0 : W2.cell? ⟨g1, 0, none⟩ = some (.int .i64 5) := hp2.cell 0
  have p1 : W2.cell? ⟨g1, 1, none⟩ = some (.slice A1 0 c1) := hp2.cell 1
  clear hb1 hb2 hm1 hp2
  simp only [outV]
  go_wp2_with (fail)
  refine (credit_calls 5 [] A1 c1 W2.heap.size 0 W2 ⟨Reads.of_own HM2.out, by decide, by simp, by simp⟩ (Nat.le_refl _) (HGG.out.below HB2.out) (by decide)).mono ?_
  rintro e w3 ⟨hb3, v3, rfl, hm3⟩
  rw [HC2.out, show Res.bad (16, none) = ⟨16, none, 0, []⟩ from rfl] at hm3 ⊢
  dsimp only [List.length_nil] at hm3 ⊢
  obtain ⟨A3, c3, rfl⟩ := own_slice hm3
  have ho : outV (16, none) = .iface 87 (.agg #[.iface 65 (.int .i64 16)]) := rfl
  rw [ho]
  have HB3 := Lib.hid (HB2.out.trans (hb3.mono HB2.out.size))
  obtain ⟨g3, hg3⟩ : ∃ g, w3.heap.size = g := ⟨_, rfl⟩
  obtain ⟨W4, hW4⟩ : ∃ W, w3.alloc (.cells #[.int .i64 0, .slice A3 0 c3] 24) = W := ⟨_, rfl⟩
  have hb4 : Below w3.heap.size w3 W4 := hW4 ▸ (Below.refl _ _).alloc (Nat.le_refl _) _
  have HM4 := Lib.hid ((HM2.out.below hb3).below hb4)
  have HP4 := Lib.hid ((HP2.out.below hb3 HP2.out.lt).below hb4 (HP2.out.below hb3 HP2.out.lt).lt)
  have HB4 := Lib.hid (HB3.out.trans (hb4.mono HB3.out.size))
  have q0 : W4.cell? ⟨g1, 0, none⟩ = some (.int .i64 5) := HP4.out.cell 0
  have q1 : W4.cell? ⟨g1, 1, none⟩ = some (.slice A1 0 c1) := HP4.out.cell 1
  have HT2 := Lib.hid (show totalS 5 [] = 5 by rw [HT.out]; rfl)
  clear hb3 hb4 hm3 ho p0 p1 hW2 hg1
  go_wp2_with (first | (go_at_call 18; refine (totalX_calls 5 [] A1 c1 W4.heap.size W4 ⟨Reads.of_own HM4.out, by decide, by simp, by simp⟩ (Nat.le_refl _)).mono ?_; rintro e w5 ⟨rfl, hb5⟩; rw [HT2.out]) | (go_at_call 37; refine (plain_refused 16 16 _ (by decide) (by decide) (HGG.out.below (HB4.out.trans (hb5.mono HB4.out.size)))).mono ?_; rintro e w6 ⟨rfl, hb6⟩))
  go_ret
  exact ⟨rfl, (HB4.out.trans (hb5.mono HB4.out.size)).trans (hb6.mono (Nat.le_trans HB4.out.size hb5.size))⟩
end Go.Proofs.YtcgcgekefhhjhaaDoor
