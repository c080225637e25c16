/- custodylaw10's laid by a contract. -/
import Derived.Test.YtmljiegeingpeaaDoorWalk10
namespace Go.Proofs.YtmljiegeingpeaaDoor
set_option linter.unusedSimpArgs false
set_option linter.unusedVariables false
open Go.RowKit

theorem chn_row_ne {w : World} {p : Nat} {sv rv : Value} {L l : List VerS} (h : Chn w p sv L) (hr : RowR w rv l) : ∀ b, rv.ownBlock = some b → ¬ OfC p sv b := by
  rintro b hi (h1 | h1)
  · subst h1; exact own_blk_ne hr h.blk (by decide) hi
  · exact own_own_ne hr h.row (by decide) hi h1

set_option maxRecDepth 100000 in
set_option maxHeartbeats 4000000 in
theorem laid_calls (l : List ActS) (A : Option Addr) (c B : Nat) (w : World) (hr : Reads w B 3 A l.length (actsC l)) (hBw : B ≤ w.heap.size) (hlen : l.length ≤ 9382499223000) :
    Calls Tryd.prog 52 #[.slice A l.length c] w
      fun e w' => ∃ p sv rv, e = .returned (.tuple #[.pointer (some ⟨p, 0, none⟩), rv]) ∧ Chn w' p sv (laidL l l.length) ∧ RowR w' rv (laidL l l.length) ∧ Below w.heap.size w w' ∧ ∀ i, OfC p sv i → w.heap.size ≤ i := by
  go_enter Tryd.func52, Tryd.ntmps52
  go_wp2_with (fail)
  refine (newChain_calls w).mono ?_
  rintro e w1 ⟨rfl, hC0, hb1⟩
  obtain ⟨p, hp⟩ : ∃ p, w.heap.size = p := ⟨_, rfl⟩
  rw [hp] at hC0 ⊢
  have HC0 := Lib.hid hC0
  have HB1 := Lib.hid hb1
  have HPP : Hid (w.heap.size ≤ p) := Nat.le_of_eq hp
  clear hC0 hb1
  go_wp2_with (fail)
  go_loopw [5, 6] (fun rv i wr => ∃ (k : Nat) (sv : Value), k ≤ l.length ∧ i = .int .i64 k ∧ Chn wr p sv (laidL l k) ∧ RowR wr rv (laidL l k) ∧ Below w.heap.size w wr ∧ ∀ i, OfC p sv i → w.heap.size ≤ i) (fun _ i _ => l.length - (intOf i).toNat)
  case atStart => exact ⟨0, _, Nat.zero_le _, rfl, HC0.out, World.ownsRow_nil _ _ _ _, HB1.out, fun i hi => by
      rcases hi with rfl | hi
      · exact HPP.out
      · cases hi⟩
  case round =>
    clear HC0 HB1 hp
    obtain ⟨k, sv, hk, rfl, hC, hR, hB, hF⟩ := hrel
    obtain ⟨RA, rc, hrv⟩ := own_slice hR
    subst hrv
    by_cases hlt : k < l.length
    · have hkl : (k : Int) < l.length := by omega
      obtain ⟨ad, rfl, hadb, e0, e1, e2⟩ := acts_at (hr.below (hB.mono hBw)) hlt
      have hll := laidL_len l k
      have HLS := Lib.hid (laidL_succ hlt)
      generalize l[k] = a at e0 e1 e2 HLS
      have HC := Lib.hid hC
      have HB := Lib.hid hB
      have HF := Lib.hid hF
      have HR := Lib.hid hR
      have HE0 := Lib.hid e0
      have HE1 := Lib.hid e1
      have HE2 := Lib.hid e2
      clear hC hB hF hR
      go_wp2_with (fail)
      refine (done_calls (laidL l k) HC.out.up _ a wr HR.out (by omega)).mono ?_
      rintro e w2 ⟨rv2, rfl, hr2, hb2, _⟩
      obtain ⟨RB, rd, rfl⟩ := own_slice hr2
      have HR2 := Lib.hid hr2
      have HC2 := Lib.hid (HC.out.below hb2)
      have HB2 := Lib.hid (HB.out.trans (hb2.mono HB.out.size))
      have f0 := cell_below hb2 HE0.out
      have f1 := cell_below hb2 HE1.out
      have f2 := cell_below hb2 HE2.out
      clear e0 e1 e2 hr2 hb2
      go_wp2_with (fail)
      refine (act_calls a w2 HC2.out (by omega)).mono ?_
      rintro e w3 ⟨sv', rfl, hC3, hb3, hs3⟩
      have HC3 := Lib.hid hC3
      have HR3 : Hid (RowR w3 _ (doneL (laidL l k) a)) := own_but HR2.out hb3 (chn_row_ne HC2.out HR2.out)
      have HB3 := Lib.hid (HB2.out.trans (hb3.to_below HF.out HB2.out.size))
      clear hC3 hb3
      go_wp2_with (fail)
      go_roundw
      case rel =>
        refine ⟨k + 1, sv', by omega, by go_num, by rw [HLS.out]; exact HC3.out, by rw [HLS.out]; exact HR3.out, HB3.out, fun i hi => ?_⟩
        rcases hi with rfl | hi
        · exact HF.out _ (.inl rfl)
        · rcases hs3 i hi with h1 | h1
          · exact HF.out _ (.inr h1)
          · exact Nat.le_trans HB2.out.size h1
      case measure => simp [intOf]; omega
    · obtain rfl : k = l.length := by omega
      have HC := Lib.hid hC
      have HB := Lib.hid hB
      have HF := Lib.hid hF
      have HR := Lib.hid hR
      clear hC hB hF hR
      go_wp2
      go_ret2
      exact ⟨p, sv, _, rfl, HC.out, HR.out, HB.out, HF.out⟩
end Go.Proofs.YtmljiegeingpeaaDoor
