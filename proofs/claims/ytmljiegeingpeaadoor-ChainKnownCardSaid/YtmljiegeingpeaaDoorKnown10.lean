/- custodylaw10.ChainKnown by a contract (printed by gen_known10.py). -/
import Derived.Test.YtmljiegeingpeaaDoorWorks10
import Derived.Test.YtmljiegeingpeaaDoorWalks10
namespace Go.Proofs.YtmljiegeingpeaaDoor
set_option linter.unusedSimpArgs false
set_option linter.unusedVariables false
open Go.RowKit

def kA : List VerS := [⟨0, ⟨#[97]⟩⟩]
def kB : List VerS := [⟨0, ⟨#[97]⟩⟩, ⟨3, ⟨#[98]⟩⟩]
def kC : List VerS := [⟨0, ⟨#[97]⟩⟩, ⟨3, ⟨#[98]⟩⟩, ⟨7, ⟨#[99]⟩⟩]
def kD : List VerS := [⟨3, ⟨#[98]⟩⟩, ⟨7, ⟨#[99]⟩⟩]
def kOps : List OpS := [⟨0, 0, 9223372036854775807, ⟨#[122]⟩, by decide⟩, ⟨0, 1, 9223372036854775807, ⟨#[]⟩, by decide⟩, ⟨0, 1, 9223372036854775806, ⟨#[]⟩, by decide⟩, ⟨0, 0, 9223372036854775807, ⟨#[]⟩, by decide⟩, ⟨0, 3, 9223372036854775807, ⟨#[]⟩, by decide⟩, ⟨0, 5, 0, ⟨#[]⟩, by decide⟩, ⟨0, 2, 0, ⟨#[]⟩, by decide⟩, ⟨0, 1, (-9223372036854775808), ⟨#[]⟩, by decide⟩, ⟨0, 3, (-9223372036854775808), ⟨#[]⟩, by decide⟩, ⟨0, 0, (-9223372036854775808), ⟨#[]⟩, by decide⟩]
def kPuts : List ActS := [⟨false, 3, ⟨#[98]⟩, by decide⟩, ⟨false, 7, ⟨#[99]⟩, by decide⟩]
def kActs : List ActS := [⟨false, 9, ⟨#[101]⟩, by decide⟩, ⟨true, 8, ⟨#[]⟩, by decide⟩]
def kTurned : List ActS := [⟨true, 8, ⟨#[]⟩, by decide⟩, ⟨false, 9, ⟨#[101]⟩, by decide⟩, ⟨true, 9223372036854775807, ⟨#[]⟩, by decide⟩]
def kFew : List ActS := [⟨false, 0, ⟨#[97]⟩, by decide⟩, ⟨false, 1, ⟨#[98]⟩, by decide⟩, ⟨false, 2, ⟨#[99]⟩, by decide⟩, ⟨false, 3, ⟨#[100]⟩, by decide⟩, ⟨false, 90, ⟨#[101]⟩, by decide⟩]
theorem reads_row {w : World} {g s n : Nat} {t : TypeId} {cs : List Value} (h : Blk w g t cs.toArray) (hc : cs.length = n * s) : Reads w w.heap.size s (some ⟨g, 0, none⟩) n cs :=
  ⟨hc, fun _ => ⟨_, rfl, h.lt, fun j u hu => by
    have ea : ((⟨g, 0, none⟩ : Addr).add j) = ⟨g, j, none⟩ := by unfold Addr.add; split <;> simp_all
    rw [ea, h.cell j]
    simpa using hu⟩⟩
theorem reads_take {w : World} {B s n m : Nat} {A : Option Addr} {cs ds : List Value} (h : Reads w B s A n cs) (hm : m ≤ n) (hd : ds = cs.take (m * s)) : Reads w B s A m ds := by
  subst hd
  refine ⟨by rw [List.length_take, h.1]; exact Nat.min_eq_left (Nat.mul_le_mul_right _ hm), fun h0 => ?_⟩
  obtain ⟨ad, e, hb, hc⟩ := h.2 (by omega)
  exact ⟨ad, e, hb, fun j u hu => hc j u (by
    rw [List.getElem?_take] at hu
    split at hu
    · exact hu
    · cases hu)⟩
theorem actsC_take (l : List ActS) (m : Nat) : actsC (l.take m) = (actsC l).take (m * 3) := by
  induction l generalizing m with
  | nil => simp [actsC]
  | cons x xs ih =>
    cases m with
    | zero => simp [actsC]
    | succ m =>
      have e : (m + 1) * 3 = m * 3 + 3 := by omega
      have h := ih m
      unfold actsC at h ⊢
      rw [List.take_succ_cons, List.flatMap_cons, List.flatMap_cons, h, e]
      simp [ActS.cs]
theorem kl0 : atV ([] : List VerS) 5 = ⟨#[]⟩ := by first | rfl | decide | simp [putL, putE, mayPut, lastNo, pruneL, pruneN, leN, atV, lastV, lastM, kA, kB, kC, kD]
theorem kl1 : decide (0 < leN ([] : List VerS) 5) = false := by first | rfl | decide | simp [putL, putE, mayPut, lastNo, pruneL, pruneN, leN, atV, lastV, lastM, kA, kB, kC, kD]
theorem kl2 : lastV ([] : List VerS) = ⟨#[]⟩ := by first | rfl | decide | simp [putL, putE, mayPut, lastNo, pruneL, pruneN, leN, atV, lastV, lastM, kA, kB, kC, kD]
theorem kl3 : lastM ([] : List VerS) = 0 := by first | rfl | decide | simp [putL, putE, mayPut, lastNo, pruneL, pruneN, leN, atV, lastV, lastM, kA, kB, kC, kD]
theorem kl4 : decide (0 < ([] : List VerS).length) = false := by first | rfl | decide | simp [putL, putE, mayPut, lastNo, pruneL, pruneN, leN, atV, lastV, lastM, kA, kB, kC, kD]
theorem kl5 : pruneN ([] : List VerS) 5 = 0 := by first | rfl | decide | simp [putL, putE, mayPut, lastNo, pruneL, pruneN, leN, atV, lastV, lastM, kA, kB, kC, kD]
theorem kl6 : pruneL ([] : List VerS) 5 = ([] : List VerS) := by first | rfl | decide | simp [putL, putE, mayPut, lastNo, pruneL, pruneN, leN, atV, lastV, lastM, kA, kB, kC, kD]
theorem kl7 : putE ([] : List VerS) (-1) = 1 := by first | rfl | decide | simp [putL, putE, mayPut, lastNo, pruneL, pruneN, leN, atV, lastV, lastM, kA, kB, kC, kD]
theorem kl8 : putL ([] : List VerS) ⟨(-1), ⟨#[120]⟩⟩ = ([] : List VerS) := by first | rfl | decide | simp [putL, putE, mayPut, lastNo, pruneL, pruneN, leN, atV, lastV, lastM, kA, kB, kC, kD]
theorem kl9 : putE ([] : List VerS) 0 = 0 := by first | rfl | decide | simp [putL, putE, mayPut, lastNo, pruneL, pruneN, leN, atV, lastV, lastM, kA, kB, kC, kD]
theorem kl10 : putL ([] : List VerS) ⟨0, ⟨#[97]⟩⟩ = kA := by first | rfl | decide | simp [putL, putE, mayPut, lastNo, pruneL, pruneN, leN, atV, lastV, lastM, kA, kB, kC, kD]
theorem kl11 : putE kA 0 = 1 := by first | rfl | decide | simp [putL, putE, mayPut, lastNo, pruneL, pruneN, leN, atV, lastV, lastM, kA, kB, kC, kD]
theorem kl12 : putL kA ⟨0, ⟨#[98]⟩⟩ = kA := by first | rfl | decide | simp [putL, putE, mayPut, lastNo, pruneL, pruneN, leN, atV, lastV, lastM, kA, kB, kC, kD]
theorem kl13 : putE kA 3 = 0 := by first | rfl | decide | simp [putL, putE, mayPut, lastNo, pruneL, pruneN, leN, atV, lastV, lastM, kA, kB, kC, kD]
theorem kl14 : putL kA ⟨3, ⟨#[98]⟩⟩ = kB := by first | rfl | decide | simp [putL, putE, mayPut, lastNo, pruneL, pruneN, leN, atV, lastV, lastM, kA, kB, kC, kD]
theorem kl15 : putE kB 7 = 0 := by first | rfl | decide | simp [putL, putE, mayPut, lastNo, pruneL, pruneN, leN, atV, lastV, lastM, kA, kB, kC, kD]
theorem kl16 : putL kB ⟨7, ⟨#[99]⟩⟩ = kC := by first | rfl | decide | simp [putL, putE, mayPut, lastNo, pruneL, pruneN, leN, atV, lastV, lastM, kA, kB, kC, kD]
theorem kl17 : putE kC 4 = 1 := by first | rfl | decide | simp [putL, putE, mayPut, lastNo, pruneL, pruneN, leN, atV, lastV, lastM, kA, kB, kC, kD]
theorem kl18 : putL kC ⟨4, ⟨#[100]⟩⟩ = kC := by first | rfl | decide | simp [putL, putE, mayPut, lastNo, pruneL, pruneN, leN, atV, lastV, lastM, kA, kB, kC, kD]
theorem kl19 : pruneN kC 2 = 0 := by first | rfl | decide | simp [putL, putE, mayPut, lastNo, pruneL, pruneN, leN, atV, lastV, lastM, kA, kB, kC, kD]
theorem kl20 : pruneL kC 2 = kC := by first | rfl | decide | simp [putL, putE, mayPut, lastNo, pruneL, pruneN, leN, atV, lastV, lastM, kA, kB, kC, kD]
theorem kl21 : pruneN kC 6 = 1 := by first | rfl | decide | simp [putL, putE, mayPut, lastNo, pruneL, pruneN, leN, atV, lastV, lastM, kA, kB, kC, kD]
theorem kl22 : pruneL kC 6 = kD := by first | rfl | decide | simp [putL, putE, mayPut, lastNo, pruneL, pruneN, leN, atV, lastV, lastM, kA, kB, kC, kD]
theorem kl23 : atV kD 2 = ⟨#[]⟩ := by first | rfl | decide | simp [putL, putE, mayPut, lastNo, pruneL, pruneN, leN, atV, lastV, lastM, kA, kB, kC, kD]
theorem kl24 : decide (0 < leN kD 2) = false := by first | rfl | decide | simp [putL, putE, mayPut, lastNo, pruneL, pruneN, leN, atV, lastV, lastM, kA, kB, kC, kD]
theorem kl25 : atV kD 6 = ⟨#[98]⟩ := by first | rfl | decide | simp [putL, putE, mayPut, lastNo, pruneL, pruneN, leN, atV, lastV, lastM, kA, kB, kC, kD]
theorem kl26 : decide (0 < leN kD 6) = true := by first | rfl | decide | simp [putL, putE, mayPut, lastNo, pruneL, pruneN, leN, atV, lastV, lastM, kA, kB, kC, kD]
set_option maxRecDepth 100000 in
set_option maxHeartbeats 8000000 in
theorem lawKnown_calls (w : World) (hG : HG w) : Calls Tryd.prog 7 #[] w fun e w' => e = .returned (.bool true) ∧ Below w.heap.size w w' := by
  go_enter Tryd.func7, Tryd.ntmps7
  go_wp2_with (fail)
  refine (newChain_calls w).mono ?_
  rintro e w0 ⟨rfl, hC, hb⟩
  obtain ⟨p, hp⟩ : ∃ p, w.heap.size = p := ⟨_, rfl⟩
  rw [hp] at hC ⊢
  have HC_0 := Lib.hid hC
  have HB_0 := Lib.hid hb
  have HF_0 : Hid (∀ i, OfC p (.slice none 0 0) i → w.heap.size ≤ i) := by
    rintro i (rfl | hi)
    · exact Nat.le_of_eq hp
    · cases hi
  have HG := Lib.hid hG
  clear hC hb hG
  go_wp2_with (fail)
  refine (works_calls w0 (HG.out.below HB_0.out)).mono ?_
  rintro e w1 ⟨rfl, hb⟩
  have HC_1 := Lib.hid (HC_0.out.below hb)
  have HB_1 := Lib.hid (HB_0.out.trans (hb.mono HB_0.out.size))
  have HF_1 := HF_0
  clear hb
  go_wp2_with (fail)
  refine (at_calls 5 w1 HC_1.out).mono ?_
  rintro e w2 ⟨rfl, hb⟩
  rw [kl0, kl1]
  have HC_2 := Lib.hid (HC_1.out.below hb)
  have HB_2 := Lib.hid (HB_1.out.trans (hb.mono HB_1.out.size))
  have HF_2 := HF_1
  clear hb
  go_wp2_with (fail)
  refine (last_calls w2 HC_2.out).mono ?_
  rintro e w3 ⟨rfl, hb⟩
  rw [kl2, kl3, kl4]
  have HC_3 := Lib.hid (HC_2.out.below hb)
  have HB_3 := Lib.hid (HB_2.out.trans (hb.mono HB_2.out.size))
  have HF_3 := HF_2
  clear hb
  go_wp2_with (fail)
  refine (prune_calls 5 w3 HC_3.out).mono ?_
  rintro e w4 ⟨sv4, rfl, hC, hb, hs⟩
  rw [kl6] at hC
  rw [kl5]
  have HC_4 := Lib.hid hC
  have HB_4 := Lib.hid (HB_3.out.trans (hb.to_below HF_3.out HB_3.out.size))
  have HF_4 : Hid (∀ i, OfC p sv4 i → w.heap.size ≤ i) := by
    rintro i (rfl | hi)
    · exact HF_3.out _ (.inl rfl)
    · rcases hs i hi with h | h
      · exact HF_3.out _ (.inr h)
      · exact Nat.le_trans HB_3.out.size h
  clear hC hb hs
  go_wp2_with (fail)
  refine (len_calls w4 HC_4.out).mono ?_
  rintro e wx ⟨rfl, hwx⟩
  rw [hwx]
  clear hwx
  rw [show (([] : List VerS).length : Int) = 0 from rfl]
  go_wp2_with (fail)
  refine (put_calls (-1) ⟨#[120]⟩ w4 HC_4.out (by simp [kA, kB, kC, kD])).mono ?_
  rintro e w5 ⟨sv5, rfl, hC, hb, hs⟩
  rw [kl8] at hC
  rw [kl7]
  have HC_5 := Lib.hid hC
  have HB_5 := Lib.hid (HB_4.out.trans (hb.to_below HF_4.out HB_4.out.size))
  have HF_5 : Hid (∀ i, OfC p sv5 i → w.heap.size ≤ i) := by
    rintro i (rfl | hi)
    · exact HF_4.out _ (.inl rfl)
    · rcases hs i hi with h | h
      · exact HF_4.out _ (.inr h)
      · exact Nat.le_trans HB_4.out.size h
  clear hC hb hs
  go_wp2_with (fail)
  refine (put_calls 0 ⟨#[97]⟩ w5 HC_5.out (by simp [kA, kB, kC, kD])).mono ?_
  rintro e w6 ⟨sv6, rfl, hC, hb, hs⟩
  rw [kl10] at hC
  rw [kl9, errV_zero]
  have HC_6 := Lib.hid hC
  have HB_6 := Lib.hid (HB_5.out.trans (hb.to_below HF_5.out HB_5.out.size))
  have HF_6 : Hid (∀ i, OfC p sv6 i → w.heap.size ≤ i) := by
    rintro i (rfl | hi)
    · exact HF_5.out _ (.inl rfl)
    · rcases hs i hi with h | h
      · exact HF_5.out _ (.inr h)
      · exact Nat.le_trans HB_5.out.size h
  clear hC hb hs
  go_wp2_with (fail)
  refine (put_calls 0 ⟨#[98]⟩ w6 HC_6.out (by simp [kA, kB, kC, kD])).mono ?_
  rintro e w7 ⟨sv7, rfl, hC, hb, hs⟩
  rw [kl12] at hC
  rw [kl11]
  have HC_7 := Lib.hid hC
  have HB_7 := Lib.hid (HB_6.out.trans (hb.to_below HF_6.out HB_6.out.size))
  have HF_7 : Hid (∀ i, OfC p sv7 i → w.heap.size ≤ i) := by
    rintro i (rfl | hi)
    · exact HF_6.out _ (.inl rfl)
    · rcases hs i hi with h | h
      · exact HF_6.out _ (.inr h)
      · exact Nat.le_trans HB_6.out.size h
  clear hC hb hs
  go_wp2_with (fail)
  refine (put_calls 3 ⟨#[98]⟩ w7 HC_7.out (by simp [kA, kB, kC, kD])).mono ?_
  rintro e w8 ⟨sv8, rfl, hC, hb, hs⟩
  rw [kl14] at hC
  rw [kl13, errV_zero]
  have HC_8 := Lib.hid hC
  have HB_8 := Lib.hid (HB_7.out.trans (hb.to_below HF_7.out HB_7.out.size))
  have HF_8 : Hid (∀ i, OfC p sv8 i → w.heap.size ≤ i) := by
    rintro i (rfl | hi)
    · exact HF_7.out _ (.inl rfl)
    · rcases hs i hi with h | h
      · exact HF_7.out _ (.inr h)
      · exact Nat.le_trans HB_7.out.size h
  clear hC hb hs
  go_wp2_with (fail)
  refine (put_calls 7 ⟨#[99]⟩ w8 HC_8.out (by simp [kA, kB, kC, kD])).mono ?_
  rintro e w9 ⟨sv9, rfl, hC, hb, hs⟩
  rw [kl16] at hC
  rw [kl15, errV_zero]
  have HC_9 := Lib.hid hC
  have HB_9 := Lib.hid (HB_8.out.trans (hb.to_below HF_8.out HB_8.out.size))
  have HF_9 : Hid (∀ i, OfC p sv9 i → w.heap.size ≤ i) := by
    rintro i (rfl | hi)
    · exact HF_8.out _ (.inl rfl)
    · rcases hs i hi with h | h
      · exact HF_8.out _ (.inr h)
      · exact Nat.le_trans HB_8.out.size h
  clear hC hb hs
  go_wp2_with (fail)
  refine (put_calls 4 ⟨#[100]⟩ w9 HC_9.out (by simp [kA, kB, kC, kD])).mono ?_
  rintro e w10 ⟨sv10, rfl, hC, hb, hs⟩
  rw [kl18] at hC
  rw [kl17]
  have HC_10 := Lib.hid hC
  have HB_10 := Lib.hid (HB_9.out.trans (hb.to_below HF_9.out HB_9.out.size))
  have HF_10 : Hid (∀ i, OfC p sv10 i → w.heap.size ≤ i) := by
    rintro i (rfl | hi)
    · exact HF_9.out _ (.inl rfl)
    · rcases hs i hi with h | h
      · exact HF_9.out _ (.inr h)
      · exact Nat.le_trans HB_9.out.size h
  clear hC hb hs
  go_wp2_with (fail)
  refine (plain_errV 1 1 w10 (by omega) (by omega) (HG.out.below HB_10.out)).mono ?_
  rintro e w11 ⟨rfl, hb⟩
  rw [show ((1 : Int) == 1) = true from rfl]
  have HC_11 := Lib.hid (HC_10.out.below hb)
  have HB_11 := Lib.hid (HB_10.out.trans (hb.mono HB_10.out.size))
  have HF_11 := HF_10
  clear hb
  go_wp2_with (fail)
  refine (plain_errV 1 1 w11 (by omega) (by omega) (HG.out.below HB_11.out)).mono ?_
  rintro e w12 ⟨rfl, hb⟩
  rw [show ((1 : Int) == 1) = true from rfl]
  have HC_12 := Lib.hid (HC_11.out.below hb)
  have HB_12 := Lib.hid (HB_11.out.trans (hb.mono HB_11.out.size))
  have HF_12 := HF_11
  clear hb
  go_wp2_with (fail)
  refine (plain_errV 1 1 w12 (by omega) (by omega) (HG.out.below HB_12.out)).mono ?_
  rintro e w13 ⟨rfl, hb⟩
  rw [show ((1 : Int) == 1) = true from rfl]
  have HC_13 := Lib.hid (HC_12.out.below hb)
  have HB_13 := Lib.hid (HB_12.out.trans (hb.mono HB_12.out.size))
  have HF_13 := HF_12
  clear hb
  go_wp2_with (fail)
  refine (allV_calls 3 w13 HC_13.out (by decide)).mono ?_
  rintro e w14 ⟨va, rfl, hr, hb⟩
  obtain ⟨XA, xc, rfl⟩ := own_slice hr
  rw [show kC.length = 3 from rfl] at hr ⊢
  have HR0 := Lib.hid hr
  clear hr
  have HC_14 := Lib.hid (HC_13.out.below hb)
  have HB_14 := Lib.hid (HB_13.out.trans (hb.mono HB_13.out.size))
  have HF_14 := HF_13
  clear hb
  obtain ⟨gl, hgl⟩ : ∃ g, w14.heap.size = g := ⟨_, rfl⟩
  obtain ⟨wl, hwl⟩ : ∃ X, w14.alloc (.cells #[.int .i64 0, .string ⟨#[97]⟩, .int .i64 3, .string ⟨#[98]⟩, .int .i64 7, .string ⟨#[99]⟩] 72) = X := ⟨_, rfl⟩
  have hb : Below w14.heap.size w14 wl := hwl ▸ (Below.refl _ _).alloc (Nat.le_refl _) _
  have hl : Blk wl gl 72 #[.int .i64 0, .string ⟨#[97]⟩, .int .i64 3, .string ⟨#[98]⟩, .int .i64 7, .string ⟨#[99]⟩] := by rw [← hwl, ← hgl]; exact Blk.new _ _ _
  have HL := Lib.hid hl
  have HR1 := Lib.hid (rowR_below HR0.out hb)
  have HC_15 := Lib.hid (HC_14.out.below hb)
  have HB_15 := Lib.hid (HB_14.out.trans (hb.mono HB_14.out.size))
  have HF_15 := HF_14
  clear hb hl HR0
  go_wp2_with (fail)
  refine (sameV_calls kC kC XA (some ⟨gl, 0, none⟩) xc 3 wl (Reads.of_own HR1.out) (reads_row (cs := versC kC) HL.out rfl) (by decide)).mono ?_
  rintro e w15 ⟨rfl, hb⟩
  rw [decV]
  have HC_16 := Lib.hid (HC_15.out.below hb)
  have HB_16 := Lib.hid (HB_15.out.trans (hb.mono HB_15.out.size))
  have HF_16 := HF_15
  clear hb
  clear HL HR1 hwl hgl
  go_wp2_with (fail)
  refine (prune_calls 2 w15 HC_16.out).mono ?_
  rintro e w16 ⟨sv16, rfl, hC, hb, hs⟩
  rw [kl20] at hC
  rw [kl19]
  have HC_17 := Lib.hid hC
  have HB_17 := Lib.hid (HB_16.out.trans (hb.to_below HF_16.out HB_16.out.size))
  have HF_17 : Hid (∀ i, OfC p sv16 i → w.heap.size ≤ i) := by
    rintro i (rfl | hi)
    · exact HF_16.out _ (.inl rfl)
    · rcases hs i hi with h | h
      · exact HF_16.out _ (.inr h)
      · exact Nat.le_trans HB_16.out.size h
  clear hC hb hs
  go_wp2_with (fail)
  refine (prune_calls 6 w16 HC_17.out).mono ?_
  rintro e w17 ⟨sv17, rfl, hC, hb, hs⟩
  rw [kl22] at hC
  rw [kl21]
  have HC_18 := Lib.hid hC
  have HB_18 := Lib.hid (HB_17.out.trans (hb.to_below HF_17.out HB_17.out.size))
  have HF_18 : Hid (∀ i, OfC p sv17 i → w.heap.size ≤ i) := by
    rintro i (rfl | hi)
    · exact HF_17.out _ (.inl rfl)
    · rcases hs i hi with h | h
      · exact HF_17.out _ (.inr h)
      · exact Nat.le_trans HB_17.out.size h
  clear hC hb hs
  go_wp2_with (fail)
  refine (at_calls 2 w17 HC_18.out).mono ?_
  rintro e w18 ⟨rfl, hb⟩
  rw [kl23, kl24]
  have HC_19 := Lib.hid (HC_18.out.below hb)
  have HB_19 := Lib.hid (HB_18.out.trans (hb.mono HB_18.out.size))
  have HF_19 := HF_18
  clear hb
  go_wp2_with (fail)
  refine (at_calls 6 w18 HC_19.out).mono ?_
  rintro e w19 ⟨rfl, hb⟩
  rw [kl25, kl26]
  have HC_20 := Lib.hid (HC_19.out.below hb)
  have HB_20 := Lib.hid (HB_19.out.trans (hb.mono HB_19.out.size))
  have HF_20 := HF_19
  clear hb
  go_wp2_with (fail)
  refine (len_calls w19 HC_20.out).mono ?_
  rintro e wx ⟨rfl, hwx⟩
  rw [hwx]
  clear hwx
  rw [show (kD.length : Int) = 2 from rfl]
  clear HC_0 HF_0 HC_1 HF_1 HC_2 HF_2 HC_3 HF_3 HC_4 HF_4 HC_5 HF_5 HC_6 HF_6 HC_7 HF_7 HC_8 HF_8 HC_9 HF_9 HC_10 HF_10 HC_11 HF_11 HC_12 HF_12 HC_13 HF_13 HC_14 HF_14 HC_15 HF_15 HC_16 HF_16 HC_17 HF_17 HC_18 HF_18 HC_19 HF_19 HC_20 HF_20
  obtain ⟨go, hgo⟩ : ∃ g, w19.heap.size = g := ⟨_, rfl⟩
  obtain ⟨xo, hxo⟩ : ∃ X, w19.alloc (.cells #[.int .i64 0, .int .i64 0, .int .i64 9223372036854775807, .string ⟨#[122]⟩, .int .i64 0, .int .i64 1, .int .i64 9223372036854775807, .string ⟨#[]⟩, .int .i64 0, .int .i64 1, .int .i64 9223372036854775806, .string ⟨#[]⟩, .int .i64 0, .int .i64 0, .int .i64 9223372036854775807, .string ⟨#[]⟩, .int .i64 0, .int .i64 3, .int .i64 9223372036854775807, .string ⟨#[]⟩, .int .i64 0, .int .i64 5, .int .i64 0, .string ⟨#[]⟩, .int .i64 0, .int .i64 2, .int .i64 0, .string ⟨#[]⟩, .int .i64 0, .int .i64 1, .int .i64 (-9223372036854775808), .string ⟨#[]⟩, .int .i64 0, .int .i64 3, .int .i64 (-9223372036854775808), .string ⟨#[]⟩, .int .i64 0, .int .i64 0, .int .i64 (-9223372036854775808), .string ⟨#[]⟩] 48) = X := ⟨_, rfl⟩
  have hb : Below w19.heap.size w19 xo := hxo ▸ (Below.refl _ _).alloc (Nat.le_refl _) _
  have hl : Blk xo go 48 #[.int .i64 0, .int .i64 0, .int .i64 9223372036854775807, .string ⟨#[122]⟩, .int .i64 0, .int .i64 1, .int .i64 9223372036854775807, .string ⟨#[]⟩, .int .i64 0, .int .i64 1, .int .i64 9223372036854775806, .string ⟨#[]⟩, .int .i64 0, .int .i64 0, .int .i64 9223372036854775807, .string ⟨#[]⟩, .int .i64 0, .int .i64 3, .int .i64 9223372036854775807, .string ⟨#[]⟩, .int .i64 0, .int .i64 5, .int .i64 0, .string ⟨#[]⟩, .int .i64 0, .int .i64 2, .int .i64 0, .string ⟨#[]⟩, .int .i64 0, .int .i64 1, .int .i64 (-9223372036854775808), .string ⟨#[]⟩, .int .i64 0, .int .i64 3, .int .i64 (-9223372036854775808), .string ⟨#[]⟩, .int .i64 0, .int .i64 0, .int .i64 (-9223372036854775808), .string ⟨#[]⟩] := by rw [← hxo, ← hgo]; exact Blk.new _ _ _
  have HB_o := Lib.hid (HB_20.out.trans (hb.mono HB_20.out.size))
  have Lo_o := Lib.hid hl
  clear hb hl
  obtain ⟨gp, hgp⟩ : ∃ g, xo.heap.size = g := ⟨_, rfl⟩
  obtain ⟨xp, hxp⟩ : ∃ X, xo.alloc (.cells #[.bool false, .int .i64 3, .string ⟨#[98]⟩, .bool false, .int .i64 7, .string ⟨#[99]⟩] 30) = X := ⟨_, rfl⟩
  have hb : Below xo.heap.size xo xp := hxp ▸ (Below.refl _ _).alloc (Nat.le_refl _) _
  have hl : Blk xp gp 30 #[.bool false, .int .i64 3, .string ⟨#[98]⟩, .bool false, .int .i64 7, .string ⟨#[99]⟩] := by rw [← hxp, ← hgp]; exact Blk.new _ _ _
  have HB_p := Lib.hid (HB_o.out.trans (hb.mono HB_o.out.size))
  have Lo_p := Lib.hid (Lo_o.out.below hb Lo_o.out.lt)
  have Lp_p := Lib.hid hl
  clear hb hl
  obtain ⟨ga, hga⟩ : ∃ g, xp.heap.size = g := ⟨_, rfl⟩
  obtain ⟨xa, hxa⟩ : ∃ X, xp.alloc (.cells #[.bool false, .int .i64 9, .string ⟨#[101]⟩, .bool true, .int .i64 8, .string ⟨#[]⟩] 30) = X := ⟨_, rfl⟩
  have hb : Below xp.heap.size xp xa := hxa ▸ (Below.refl _ _).alloc (Nat.le_refl _) _
  have hl : Blk xa ga 30 #[.bool false, .int .i64 9, .string ⟨#[101]⟩, .bool true, .int .i64 8, .string ⟨#[]⟩] := by rw [← hxa, ← hga]; exact Blk.new _ _ _
  have HB_a := Lib.hid (HB_p.out.trans (hb.mono HB_p.out.size))
  have Lo_a := Lib.hid (Lo_p.out.below hb Lo_p.out.lt)
  have Lp_a := Lib.hid (Lp_p.out.below hb Lp_p.out.lt)
  have La_a := Lib.hid hl
  clear hb hl
  obtain ⟨gt, hgt⟩ : ∃ g, xa.heap.size = g := ⟨_, rfl⟩
  obtain ⟨xt, hxt⟩ : ∃ X, xa.alloc (.cells #[.bool true, .int .i64 8, .string ⟨#[]⟩, .bool false, .int .i64 9, .string ⟨#[101]⟩, .bool true, .int .i64 9223372036854775807, .string ⟨#[]⟩] 30) = X := ⟨_, rfl⟩
  have hb : Below xa.heap.size xa xt := hxt ▸ (Below.refl _ _).alloc (Nat.le_refl _) _
  have hl : Blk xt gt 30 #[.bool true, .int .i64 8, .string ⟨#[]⟩, .bool false, .int .i64 9, .string ⟨#[101]⟩, .bool true, .int .i64 9223372036854775807, .string ⟨#[]⟩] := by rw [← hxt, ← hgt]; exact Blk.new _ _ _
  have HB_t := Lib.hid (HB_a.out.trans (hb.mono HB_a.out.size))
  have Lo_t := Lib.hid (Lo_a.out.below hb Lo_a.out.lt)
  have Lp_t := Lib.hid (Lp_a.out.below hb Lp_a.out.lt)
  have La_t := Lib.hid (La_a.out.below hb La_a.out.lt)
  have Lt_t := Lib.hid hl
  clear hb hl
  obtain ⟨gf, hgf⟩ : ∃ g, xt.heap.size = g := ⟨_, rfl⟩
  obtain ⟨xf, hxf⟩ : ∃ X, xt.alloc (.cells #[.bool false, .int .i64 0, .string ⟨#[97]⟩, .bool false, .int .i64 1, .string ⟨#[98]⟩, .bool false, .int .i64 2, .string ⟨#[99]⟩, .bool false, .int .i64 3, .string ⟨#[100]⟩, .bool false, .int .i64 90, .string ⟨#[101]⟩] 30) = X := ⟨_, rfl⟩
  have hb : Below xt.heap.size xt xf := hxf ▸ (Below.refl _ _).alloc (Nat.le_refl _) _
  have hl : Blk xf gf 30 #[.bool false, .int .i64 0, .string ⟨#[97]⟩, .bool false, .int .i64 1, .string ⟨#[98]⟩, .bool false, .int .i64 2, .string ⟨#[99]⟩, .bool false, .int .i64 3, .string ⟨#[100]⟩, .bool false, .int .i64 90, .string ⟨#[101]⟩] := by rw [← hxf, ← hgf]; exact Blk.new _ _ _
  have HB_f := Lib.hid (HB_t.out.trans (hb.mono HB_t.out.size))
  have Lo_f := Lib.hid (Lo_t.out.below hb Lo_t.out.lt)
  have Lp_f := Lib.hid (Lp_t.out.below hb Lp_t.out.lt)
  have La_f := Lib.hid (La_t.out.below hb La_t.out.lt)
  have Lt_f := Lib.hid (Lt_t.out.below hb Lt_t.out.lt)
  have Lf_f := Lib.hid hl
  clear hb hl
  go_wp2_with (fail)
  clear hxo hxp hxa hxt hxf hgo hgp hga hgt hgf
  go_loopw [18] (fun i wr => ∃ k : Nat, k ≤ 8 ∧ i = .int .i64 k ∧ Below xf.heap.size xf wr) (fun i _ => 8 - (intOf i).toNat)
  case atStart => exact ⟨0, by omega, rfl, Below.refl _ _⟩
  case round =>
    obtain ⟨k, hk, rfl, hb0⟩ := hrel
    have HR0 := Lib.hid hb0
    clear hb0
    by_cases hlt : k < 8
    · have hk8 : (k : Int) < 8 := by omega
      have hm5 : k % 5 < 5 := Nat.mod_lt _ (by omega)
      have hrem : Int.tmod (k : Int) 5 = ((k % 5 : Nat) : Int) := by rw [Int.tmod_eq_emod_of_nonneg (by omega)]; omega
      go_wp2_with (fail)
      refine (lawWalks_calls kFew [] (k : Int) (some ⟨gf, 0, none⟩) none 5 0 wr (reads_row (cs := actsC kFew) (Lf_f.out.below HR0.out Lf_f.out.lt) rfl) Reads.none_ (by decide)).mono ?_
      rintro e v1 ⟨rfl, hb⟩
      have Hv1 := Lib.hid (HR0.out.trans (hb.mono HR0.out.size))
      clear hb
      go_wp2_with (fail)
      refine (lawWalks_calls kFew kActs (k : Int) (some ⟨gf, 0, none⟩) (some ⟨ga, 0, none⟩) 5 2 v1 (reads_row (cs := actsC kFew) (Lf_f.out.below Hv1.out Lf_f.out.lt) rfl) (reads_row (cs := actsC kActs) (La_f.out.below Hv1.out La_f.out.lt) rfl) (by decide)).mono ?_
      rintro e v2 ⟨rfl, hb⟩
      have Hv2 := Lib.hid (Hv1.out.trans (hb.mono Hv1.out.size))
      clear hb
      obtain ⟨m, hm⟩ : ∃ m, k % 5 = m := ⟨_, rfl⟩
      rw [hm] at hm5 hrem
      have hlen : (kFew.take m).length = m := by rw [List.length_take]; exact Nat.min_eq_left (by simp [kFew]; omega)
      have hmi0 : (0 : Int) ≤ (m : Int) := by omega
      have hmi5 : (m : Int) ≤ 5 := by omega
      have hw5 : IntKind.i64.wrap (m : Int) = (m : Int) := IntWalk.i64_in _ (by omega)
      have hcon := lawWalks_calls (kFew.take m) kTurned (k : Int) (some ⟨gf, 0, none⟩) (some ⟨gt, 0, none⟩) 5 3 v2 (by rw [hlen]; exact reads_take (reads_row (cs := actsC kFew) (n := 5) (Lf_f.out.below Hv2.out Lf_f.out.lt) rfl) (by omega) (actsC_take _ _)) (reads_row (cs := actsC kTurned) (Lt_f.out.below Hv2.out Lt_f.out.lt) rfl) (by rw [hlen]; simp [kTurned]; omega)
      rw [hlen] at hcon
      have HCON := Lib.hid hcon
      have HHM := Lib.hid hm
      have HLEN := Lib.hid hlen
      clear hcon hm hlen
      go_wp2_with (fail)
      refine HCON.out.mono ?_
      rintro e v3 ⟨rfl, hb⟩
      have Hv3 := Lib.hid (Hv2.out.trans (hb.mono Hv2.out.size))
      clear hb
      have hw6 : IntKind.i64.wrap ((k : Int) + 1) = (k : Int) + 1 := IntWalk.i64_in _ (by omega)
      go_wp2_with (fail)
      go_roundw
      case rel => exact ⟨k + 1, by omega, by go_num, Hv3.out⟩
      case measure => simp [intOf]; omega
    · obtain rfl : k = 8 := by omega
      go_wp2_with (fail)
      refine (lawScript_calls kOps (some ⟨go, 0, none⟩) 10 wr (reads_row (cs := opsC kOps) (Lo_f.out.below HR0.out Lo_f.out.lt) rfl) (by decide) (HG.out.below (HB_f.out.trans (HR0.out.mono HB_f.out.size)))).mono ?_
      rintro e v1 ⟨rfl, hb⟩
      have Hv1 := Lib.hid (HR0.out.trans (hb.mono HR0.out.size))
      clear hb
      go_wp2_with (fail)
      refine (lawWalks_calls kPuts kActs 0 (some ⟨gp, 0, none⟩) (some ⟨ga, 0, none⟩) 2 2 v1 (reads_row (cs := actsC kPuts) (Lp_f.out.below Hv1.out Lp_f.out.lt) rfl) (reads_row (cs := actsC kActs) (La_f.out.below Hv1.out La_f.out.lt) rfl) (by decide)).mono ?_
      rintro e v2 ⟨rfl, hb⟩
      have Hv2 := Lib.hid (Hv1.out.trans (hb.mono Hv1.out.size))
      clear hb
      go_wp2_with (fail)
      refine (lawWalks_calls kPuts kTurned 0 (some ⟨gp, 0, none⟩) (some ⟨gt, 0, none⟩) 2 3 v2 (reads_row (cs := actsC kPuts) (Lp_f.out.below Hv2.out Lp_f.out.lt) rfl) (reads_row (cs := actsC kTurned) (Lt_f.out.below Hv2.out Lt_f.out.lt) rfl) (by decide)).mono ?_
      rintro e v3 ⟨rfl, hb⟩
      have Hv3 := Lib.hid (Hv2.out.trans (hb.mono Hv2.out.size))
      clear hb
      go_wp2_with (fail)
      refine (lawWalks_calls kPuts kTurned 2 (some ⟨gp, 0, none⟩) (some ⟨gt, 0, none⟩) 2 3 v3 (reads_row (cs := actsC kPuts) (Lp_f.out.below Hv3.out Lp_f.out.lt) rfl) (reads_row (cs := actsC kTurned) (Lt_f.out.below Hv3.out Lt_f.out.lt) rfl) (by decide)).mono ?_
      rintro e v4 ⟨rfl, hb⟩
      have Hv4 := Lib.hid (Hv3.out.trans (hb.mono Hv3.out.size))
      clear hb
      go_wp2_with (fail)
      refine (lawWalks_calls [] kActs 0 none (some ⟨ga, 0, none⟩) 0 2 v4 Reads.none_ (reads_row (cs := actsC kActs) (La_f.out.below Hv4.out La_f.out.lt) rfl) (by decide)).mono ?_
      rintro e v5 ⟨rfl, hb⟩
      have Hv5 := Lib.hid (Hv4.out.trans (hb.mono Hv4.out.size))
      clear hb
      go_wp2
      go_ret
      exact ⟨rfl, HB_f.out.trans (Hv5.out.mono HB_f.out.size)⟩
end Go.Proofs.YtmljiegeingpeaaDoor
