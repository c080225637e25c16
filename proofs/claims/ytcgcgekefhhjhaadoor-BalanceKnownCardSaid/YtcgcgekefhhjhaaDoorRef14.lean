/- custodyref14's Check, Right, Total, Marked, Cover by contracts (printed by gen_ref14.py). -/
import Derived.Test.YtcgcgekefhhjhaaDoorMove14
namespace Go.Proofs.YtcgcgekefhhjhaaDoor
set_option linter.unusedSimpArgs false
set_option linter.unusedVariables false
open Go.RowKit

set_option maxRecDepth 100000 in
theorem fits_calls (a b : Int) (w : World) (ha : 0 ≤ a ∧ a ≤ 9223372036854775807) : Calls Tryd.prog 38 #[.int .i64 a, .int .i64 b] w fun e w' => e = .returned (.bool (decide (b ≤ 9223372036854775807 - a))) ∧ w' = w := by
  have h0 : 9223372036854775807 - a ≤ 9223372036854775807 := by omega
  have h1 : 0 ≤ 9223372036854775807 - a := by omega
  go_enter Tryd.func38, Tryd.ntmps38
  go_wp2
  go_ret
  exact ⟨rfl, rfl⟩

set_option maxRecDepth 100000 in
set_option maxHeartbeats 4000000 in
theorem rcheck_calls (a : Int) (l : List Mk) (A : Option Addr) (c B : Nat) (w : World) (h : PosOK w B a l A) (hB : B ≤ w.heap.size) :
    Calls Tryd.prog 15 #[.agg #[.int .i64 a, .slice A l.length c]] w fun e w' => e = .returned (.tuple #[.int .i64 (posCheck a l).1, .int .i64 (posCheck a l).2]) ∧ Below w.heap.size w w' := by
  obtain ⟨gp, hgp⟩ : ∃ g, w.heap.size = g := ⟨_, rfl⟩
  obtain ⟨W1, hW1⟩ : ∃ W, w.alloc (.cells #[.int .i64 a, .slice A l.length c] 24) = W := ⟨_, rfl⟩
  have hb1 : Below w.heap.size w W1 := hW1 ▸ (Below.refl _ _).alloc (Nat.le_refl _) _
  have hp : Blk W1 gp 24 #[.int .i64 a, .slice A l.length c] := by rw [← hW1]; exact blkNew hgp
  have H0 := Lib.hid h
  have HB0 := Lib.hid hB
  have HBB : Hid (B ≤ W1.heap.size) := Lib.hid (Nat.le_trans hB hb1.size)
  have H := Lib.hid (h.below (hb1.mono hB))
  have HB1 := Lib.hid hb1
  have HP := Lib.hid hp
  have p0 : W1.cell? ⟨gp, 0, none⟩ = some (.int .i64 a) := hp.cell 0
  have p1 : W1.cell? ⟨gp, 1, none⟩ = some (.slice A l.length c) := hp.cell 1
  have hlen := H0.out.len
  clear h hb1 hp hB
  go_enter Tryd.func15, Tryd.ntmps15
  by_cases h0 : a < 0
  · have HC := Lib.hid (pc1 (l := l) h0)
    go_wp2_with (fail)
    go_ret2
    exact ⟨by rw [HC.out]; rfl, hgp ▸ HB1.out⟩
  · by_cases h8 : 8 < l.length
    · have h8i : (8 : Int) < (l.length : Int) := by omega
      have HC := Lib.hid (pc2 (a := a) (by omega) h8)
      go_wp2_with (fail)
      go_ret2
      exact ⟨by rw [HC.out]; rfl, hgp ▸ HB1.out⟩
    · have h8i : ¬ (8 : Int) < (l.length : Int) := by omega
      have hle8 : l.length ≤ 8 := by omega
      have ha0 : 0 ≤ a := by omega
      clear h0 h8
      go_wp2_with (fail)
      clear h8i p0 p1 hW1 hgp
      go_loopw [4, 5] (fun la i wr => ∃ k : Nat, k ≤ l.length ∧ i = .int .i64 k ∧ la = .int .i64 (lastN l k) ∧ (∀ j, j < k → badB l j = false) ∧ Blk wr gp 24 #[.int .i64 a, .slice A l.length c] ∧ Below w.heap.size w wr) (fun _ i _ => l.length - (intOf i).toNat)
      case atStart => exact ⟨0, Nat.zero_le _, rfl, rfl, fun j hj => by omega, HP.out, HB1.out⟩
      case round =>
        clear HP HB1
        obtain ⟨k, hk, rfl, rfl, hno, hbp, hB0⟩ := hrel
        have p0 : wr.cell? ⟨gp, 0, none⟩ = some (.int .i64 a) := hbp.cell 0
        have p1 : wr.cell? ⟨gp, 1, none⟩ = some (.slice A l.length c) := hbp.cell 1
        by_cases hlt : k < l.length
        · have hkl : (k : Int) < l.length := by omega
          obtain ⟨ad, rfl, hadb, e0, e1⟩ := marks_at (H0.out.r.below (hB0.mono HB0.out)) hlt
          have hbd : badB l k = decide (l[k].m ≤ lastN l k ∨ 65536 < l[k].m ∨ l[k].q < 1) := by unfold badB; rw [List.getElem?_eq_getElem hlt]
          have hls := lastN_succ hlt
          obtain ⟨x, hx⟩ : ∃ x, l[k] = x := ⟨_, rfl⟩
          rw [hx] at e0 e1 hbd hls
          obtain ⟨la, hla⟩ : ∃ la, lastN l k = la := ⟨_, rfl⟩
          rw [hla] at hbd ⊢
          have HNO := Lib.hid hno
          have HBP := Lib.hid hbp
          have HBW := Lib.hid hB0
          have HBD := Lib.hid hbd
          have HLS := Lib.hid hls
          clear hno hbp hB0 hbd hls hx hla
          by_cases h1 : x.m ≤ la
          · have HC := Lib.hid (pc3 ha0 hle8 hlt (by rw [HBD.out]; simp [h1]) HNO.out)
            go_wp2_with (fail)
            go_ret2
            exact ⟨by rw [HC.out]; rfl, HBW.out.alloc HBW.out.size _⟩
          · by_cases h2 : 65536 < x.m
            · have HC := Lib.hid (pc3 ha0 hle8 hlt (by rw [HBD.out]; simp [h2]) HNO.out)
              go_wp2_with (fail)
              go_ret2
              exact ⟨by rw [HC.out]; rfl, HBW.out.alloc HBW.out.size _⟩
            · by_cases h3 : x.q < 1
              · have HC := Lib.hid (pc3 ha0 hle8 hlt (by rw [HBD.out]; simp [h3]) HNO.out)
                go_wp2_with (fail)
                go_ret2
                exact ⟨by rw [HC.out]; rfl, HBW.out.alloc HBW.out.size _⟩
              · have hbf : badB l k = false := by rw [HBD.out]; simp; omega
                have HBF := Lib.hid hbf
                clear hbf
                go_wp2_with (fail)
                go_roundw
                case rel =>
                  refine ⟨k + 1, by omega, by go_num, by rw [HLS.out], fun j hj => ?_, HBP.out.alloc _, HBW.out.alloc HBW.out.size _⟩
                  rcases Nat.lt_or_ge j k with h | h
                  · exact HNO.out j h
                  · obtain rfl : j = k := by omega
                    exact HBF.out
                case measure => simp [intOf]; omega
        · obtain rfl : k = l.length := by omega
          have HNO := Lib.hid hno
          have HBP := Lib.hid hbp
          have HBW := Lib.hid hB0
          have ha1 := H0.out.a1
          clear hno hbp hB0 hlt
          go_wp2_with (fail)
          clear p0 p1
          rename World => w1
          go_loopw [7, 8] (fun su i wr => ∃ k : Nat, k ≤ l.length ∧ i = .int .i64 k ∧ su = .int .i64 (sumTo a l k) ∧ 0 ≤ sumTo a l k ∧ sumTo a l k ≤ 9223372036854775807 ∧ (∀ j, j < k → overB a l j = false) ∧ Blk wr gp 24 #[.int .i64 a, .slice A l.length c] ∧ Below w.heap.size w wr) (fun _ i _ => l.length - (intOf i).toNat)
          case atStart => exact ⟨0, Nat.zero_le _, rfl, by rw [sumTo_zero], by rw [sumTo_zero]; exact ha0, by rw [sumTo_zero]; exact ha1, fun j hj => by omega, HBP.out, HBW.out⟩
          case round =>
            clear HBP HBW
            obtain ⟨k, hk, rfl, rfl, hs0, hs1, hno, hbp, hB0⟩ := hrel
            have p0 : wr.cell? ⟨gp, 0, none⟩ = some (.int .i64 a) := hbp.cell 0
            have p1 : wr.cell? ⟨gp, 1, none⟩ = some (.slice A l.length c) := hbp.cell 1
            by_cases hlt : k < l.length
            · have hkl : (k : Int) < l.length := by omega
              obtain ⟨ad, rfl, hadb, e0, e1⟩ := marks_at (H0.out.r.below (hB0.mono HB0.out)) hlt
              have hbd : overB a l k = decide (9223372036854775807 - sumTo a l k < l[k].q) := by unfold overB; rw [List.getElem?_eq_getElem hlt]; rfl
              have hls := sumTo_succ a hlt
              have hnb := HNO.out k hlt
              have hq0 : 1 ≤ l[k].q := by
                unfold badB at hnb
                rw [List.getElem?_eq_getElem hlt] at hnb
                simp at hnb
                omega
              have hq1 := H0.out.q1 l[k] (by simp)
              obtain ⟨x, hx⟩ : ∃ x, l[k] = x := ⟨_, rfl⟩
              rw [hx] at e0 e1 hbd hls hq0 hq1
              obtain ⟨su, hsu⟩ : ∃ su, sumTo a l k = su := ⟨_, rfl⟩
              rw [hsu] at hbd hs0 hs1 hls ⊢
              have HOV := Lib.hid hno
              have HBP := Lib.hid hbp
              have HBW := Lib.hid hB0
              have HBD := Lib.hid hbd
              have HLS := Lib.hid hls
              clear hno hB0 hbd hls hx hsu hnb hbp
              by_cases hov : x.q ≤ 9223372036854775807 - su
              · have hov2 : overB a l k = false := by rw [HBD.out]; simp; omega
                have HOV2 := Lib.hid hov2
                clear hov2
                go_wp2_with (go_at_call 38; refine (fits_calls su x.q _ ⟨hs0, hs1⟩).mono ?_; rintro e w' ⟨rfl, rfl⟩; rw [decide_eq_true hov])
                go_roundw
                case rel =>
                  refine ⟨k + 1, by omega, by go_num, by rw [HLS.out], by rw [HLS.out]; omega, by rw [HLS.out]; omega, fun j hj => ?_, HBP.out, HBW.out⟩
                  rcases Nat.lt_or_ge j k with h | h
                  · exact HOV.out j h
                  · obtain rfl : j = k := by omega
                    exact HOV2.out
                case measure => simp [intOf]; omega
              · have HC := Lib.hid (pc4 ha0 hle8 HNO.out hlt (by rw [HBD.out]; simp; omega) HOV.out)
                go_wp2_with (go_at_call 38; refine (fits_calls su x.q _ ⟨hs0, hs1⟩).mono ?_; rintro e w' ⟨rfl, rfl⟩; rw [decide_eq_false hov])
                go_ret2
                exact ⟨by rw [HC.out]; rfl, HBW.out⟩
            · obtain rfl : k = l.length := by omega
              have HC := Lib.hid (pc0 ha0 hle8 HNO.out hno)
              have HBW := Lib.hid hB0
              clear hB0 hno hs0 hs1
              go_wp2
              go_ret2
              exact ⟨by rw [HC.out]; rfl, HBW.out⟩

/-- Is a position right? -/
def rightB (a : Int) (l : List Mk) : Bool := decide ((posCheck a l).1 = 0)
set_option maxRecDepth 100000 in
set_option maxHeartbeats 4000000 in
theorem right_calls (a : Int) (l : List Mk) (A : Option Addr) (c B : Nat) (w : World) (h : PosOK w B a l A) (hB : B ≤ w.heap.size) :
    Calls Tryd.prog 42 #[.agg #[.int .i64 a, .slice A l.length c]] w fun e w' => e = .returned (.bool (rightB a l)) ∧ Below w.heap.size w w' := by
  obtain ⟨gp, hgp⟩ : ∃ g, w.heap.size = g := ⟨_, rfl⟩
  obtain ⟨W1, hW1⟩ : ∃ W, w.alloc (.cells #[.int .i64 a, .slice A l.length c] 24) = W := ⟨_, rfl⟩
  have hb1 : Below w.heap.size w W1 := hW1 ▸ (Below.refl _ _).alloc (Nat.le_refl _) _
  have hp : Blk W1 gp 24 #[.int .i64 a, .slice A l.length c] := by rw [← hW1]; exact blkNew hgp
  have H0 := Lib.hid h
  have HB0 := Lib.hid hB
  have HBB : Hid (B ≤ W1.heap.size) := Lib.hid (Nat.le_trans hB hb1.size)
  have H := Lib.hid (h.below (hb1.mono hB))
  have HB1 := Lib.hid hb1
  have HP := Lib.hid hp
  have p0 : W1.cell? ⟨gp, 0, none⟩ = some (.int .i64 a) := hp.cell 0
  have p1 : W1.cell? ⟨gp, 1, none⟩ = some (.slice A l.length c) := hp.cell 1
  have hlen := H0.out.len
  clear h hb1 hp hB
  go_enter Tryd.func42, Tryd.ntmps42
  go_wp2_with (go_at_call 15; refine (rcheck_calls a l A c B W1 H.out HBB.out).mono ?_; rintro e w2 ⟨rfl, hb2⟩)
  go_ret
  exact ⟨by unfold rightB; rfl, hgp ▸ HB1.out.trans (hb2.mono HB1.out.size)⟩

theorem sumTo_ge {a : Int} {l : List Mk} (he : ∀ x ∈ l, 1 ≤ x.q) (k : Nat) : a ≤ sumTo a l k := by
  have h := sumQ_nonneg (l := l.take k) fun x hx => he x (List.mem_of_mem_take hx)
  unfold sumTo
  omega
set_option maxRecDepth 100000 in
set_option maxHeartbeats 4000000 in
theorem rtotal_calls (a : Int) (l : List Mk) (A : Option Addr) (c B : Nat) (w : World) (h : PosOK w B a l A) (hB : B ≤ w.heap.size) :
    Calls Tryd.prog 19 #[.agg #[.int .i64 a, .slice A l.length c]] w fun e w' => e = .returned (.int .i64 (totalS a l)) ∧ Below w.heap.size w w' := by
  obtain ⟨gp, hgp⟩ : ∃ g, w.heap.size = g := ⟨_, rfl⟩
  obtain ⟨W1, hW1⟩ : ∃ W, w.alloc (.cells #[.int .i64 a, .slice A l.length c] 24) = W := ⟨_, rfl⟩
  have hb1 : Below w.heap.size w W1 := hW1 ▸ (Below.refl _ _).alloc (Nat.le_refl _) _
  have hp : Blk W1 gp 24 #[.int .i64 a, .slice A l.length c] := by rw [← hW1]; exact blkNew hgp
  have H0 := Lib.hid h
  have HB0 := Lib.hid hB
  have HBB : Hid (B ≤ W1.heap.size) := Lib.hid (Nat.le_trans hB hb1.size)
  have H := Lib.hid (h.below (hb1.mono hB))
  have HB1 := Lib.hid hb1
  have HP := Lib.hid hp
  have p0 : W1.cell? ⟨gp, 0, none⟩ = some (.int .i64 a) := hp.cell 0
  have p1 : W1.cell? ⟨gp, 1, none⟩ = some (.slice A l.length c) := hp.cell 1
  have hlen := H0.out.len
  clear h hb1 hp hB
  go_enter Tryd.func19, Tryd.ntmps19
  go_wp2_with (fail)
  refine (right_calls a l A c B W1 H.out HBB.out).mono ?_
  rintro e w2 ⟨rfl, hb2⟩
  have HP2 := Lib.hid (HP.out.below hb2 HP.out.lt)
  have HB2 := Lib.hid (HB1.out.trans (hb2.mono HB1.out.size))
  have H2 := Lib.hid (H.out.below (hb2.mono HBB.out))
  have HBB2 := Lib.hid (Nat.le_trans HBB.out hb2.size)
  have q0 : w2.cell? ⟨gp, 0, none⟩ = some (.int .i64 a) := HP2.out.cell 0
  have q1 : w2.cell? ⟨gp, 1, none⟩ = some (.slice A l.length c) := HP2.out.cell 1
  clear hb2 p0 p1 hW1 hgp
  by_cases h0 : (posCheck a l).1 = 0
  · have hr := right_of_check H.out.a1 h0
    have HT := Lib.hid (right_total hr)
    have HR := Lib.hid hr
    rw [show rightB a l = true from decide_eq_true h0]
    clear h0 hr
    go_wp2_with (fail)
    clear q0 q1
    go_loopw [3, 4] (fun su i wr => ∃ k : Nat, k ≤ l.length ∧ i = .int .i64 k ∧ su = .int .i64 (sumTo a l k) ∧ Blk wr gp 24 #[.int .i64 a, .slice A l.length c] ∧ Below w.heap.size w wr) (fun _ i _ => l.length - (intOf i).toNat)
    case atStart => exact ⟨0, Nat.zero_le _, rfl, by rw [sumTo_zero], HP2.out, HB2.out⟩
    case round =>
      clear HP2 HB2
      obtain ⟨k, hk, rfl, rfl, hbp, hB0⟩ := hrel
      have p0 : wr.cell? ⟨gp, 0, none⟩ = some (.int .i64 a) := hbp.cell 0
      have p1 : wr.cell? ⟨gp, 1, none⟩ = some (.slice A l.length c) := hbp.cell 1
      by_cases hlt : k < l.length
      · have hkl : (k : Int) < l.length := by omega
        obtain ⟨ad, rfl, hadb, e0, e1⟩ := marks_at (H0.out.r.below (hB0.mono HB0.out)) hlt
        have hls := sumTo_succ a hlt
        have hm1 := sumTo_mono (a := a) (fun x hx => HR.out.q x hx) (k + 1)
        have hm0 := sumTo_ge (a := a) (fun x hx => HR.out.q x hx) k
        have ha0 := HR.out.a0
        have hsm := HR.out.sum
        unfold MaxA at hsm
        have hq0 := HR.out.q l[k] (by simp)
        rw [hls] at hm1
        obtain ⟨x, hx⟩ : ∃ x, l[k] = x := ⟨_, rfl⟩
        rw [hx] at e0 e1 hls hq0 hm1
        obtain ⟨su, hsu⟩ : ∃ su, sumTo a l k = su := ⟨_, rfl⟩
        rw [hsu] at hls hm0 hm1 ⊢
        have hs1 : su + x.q ≤ 9223372036854775807 := by omega
        have hs0 : 0 ≤ su + x.q := by omega
        have HBP := Lib.hid hbp
        have HBW := Lib.hid hB0
        have HLS := Lib.hid hls
        clear hB0 hls hx hsu hbp hm1 hm0 hsm
        go_wp2_with (fail)
        go_roundw
        case rel => exact ⟨k + 1, by omega, by go_num, by rw [HLS.out], HBP.out, HBW.out⟩
        case measure => simp [intOf]; omega
      · obtain rfl : k = l.length := by omega
        have HBW := Lib.hid hB0
        clear hB0
        go_wp2
        go_ret
        exact ⟨by rw [HT.out, ← sumTo_all]; rfl, HBW.out⟩
  · have HT := Lib.hid (show totalS a l = 0 by unfold totalS; rw [if_neg h0])
    rw [show rightB a l = false from decide_eq_false h0]
    clear h0
    go_wp2_with (fail)
    go_ret
    exact ⟨by rw [HT.out]; rfl, HB2.out⟩

set_option maxRecDepth 100000 in
set_option maxHeartbeats 4000000 in
theorem rmarked_calls (a : Int) (l : List Mk) (A : Option Addr) (c B : Nat) (n : Int) (w : World) (h : PosOK w B a l A) (hB : B ≤ w.heap.size) :
    Calls Tryd.prog 21 #[.agg #[.int .i64 a, .slice A l.length c], .int .i64 n] w fun e w' => e = .returned (.int .i64 (markedS a l n)) ∧ Below w.heap.size w w' := by
  obtain ⟨gp, hgp⟩ : ∃ g, w.heap.size = g := ⟨_, rfl⟩
  obtain ⟨W1, hW1⟩ : ∃ W, w.alloc (.cells #[.int .i64 a, .slice A l.length c] 24) = W := ⟨_, rfl⟩
  have hb1 : Below w.heap.size w W1 := hW1 ▸ (Below.refl _ _).alloc (Nat.le_refl _) _
  have hp : Blk W1 gp 24 #[.int .i64 a, .slice A l.length c] := by rw [← hW1]; exact blkNew hgp
  have H0 := Lib.hid h
  have HB0 := Lib.hid hB
  have HBB : Hid (B ≤ W1.heap.size) := Lib.hid (Nat.le_trans hB hb1.size)
  have H := Lib.hid (h.below (hb1.mono hB))
  have HB1 := Lib.hid hb1
  have HP := Lib.hid hp
  have p0 : W1.cell? ⟨gp, 0, none⟩ = some (.int .i64 a) := hp.cell 0
  have p1 : W1.cell? ⟨gp, 1, none⟩ = some (.slice A l.length c) := hp.cell 1
  have hlen := H0.out.len
  clear h hb1 hp hB
  go_enter Tryd.func21, Tryd.ntmps21
  go_wp2_with (fail)
  refine (right_calls a l A c B W1 H.out HBB.out).mono ?_
  rintro e w2 ⟨rfl, hb2⟩
  have HP2 := Lib.hid (HP.out.below hb2 HP.out.lt)
  have HB2 := Lib.hid (HB1.out.trans (hb2.mono HB1.out.size))
  have H2 := Lib.hid (H.out.below (hb2.mono HBB.out))
  have HBB2 := Lib.hid (Nat.le_trans HBB.out hb2.size)
  have q0 : w2.cell? ⟨gp, 0, none⟩ = some (.int .i64 a) := HP2.out.cell 0
  have q1 : w2.cell? ⟨gp, 1, none⟩ = some (.slice A l.length c) := HP2.out.cell 1
  clear hb2 p0 p1 hW1 hgp
  by_cases h0 : (posCheck a l).1 = 0
  · have hr := right_of_check H.out.a1 h0
    have HT := Lib.hid (right_marked hr n)
    have HR := Lib.hid hr
    rw [show rightB a l = true from decide_eq_true h0]
    clear h0 hr
    go_wp2_with (fail)
    clear q0 q1
    go_loopw [5] (fun i wr => ∃ k : Nat, k ≤ l.length ∧ i = .int .i64 k ∧ (∀ j (hj : j < l.length), j < k → l[j].m ≠ n) ∧ Blk wr gp 24 #[.int .i64 a, .slice A l.length c] ∧ Below w.heap.size w wr) (fun i _ => l.length - (intOf i).toNat)
    case atStart => exact ⟨0, Nat.zero_le _, rfl, fun j _ hj => by omega, HP2.out, HB2.out⟩
    case round =>
      clear HP2 HB2
      obtain ⟨k, hk, rfl, hno, hbp, hB0⟩ := hrel
      have p0 : wr.cell? ⟨gp, 0, none⟩ = some (.int .i64 a) := hbp.cell 0
      have p1 : wr.cell? ⟨gp, 1, none⟩ = some (.slice A l.length c) := hbp.cell 1
      have HBP := Lib.hid hbp
      have HBW := Lib.hid hB0
      have HNO := Lib.hid hno
      by_cases hlt : k < l.length
      · have hkl : (k : Int) < l.length := by omega
        obtain ⟨ad, rfl, hadb, e0, e1⟩ := marks_at (H0.out.r.below (hB0.mono HB0.out)) hlt
        by_cases hm : l[k].m = n
        · have hg : getQ l n = l[k].q := by rw [← hm]; exact getQ_mem HR.out.up (by simp)
          have HG := Lib.hid hg
          rw [hm] at e0
          clear hB0 hbp hno hg hm
          obtain ⟨x, hx⟩ : ∃ x, l[k] = x := ⟨_, rfl⟩
          rw [hx] at e1 HG
          clear hx
          go_wp2_with (fail)
          go_ret
          exact ⟨by rw [HT.out, HG.out]; rfl, HBW.out⟩
        · have HM := Lib.hid hm
          obtain ⟨x, hx⟩ : ∃ x, l[k] = x := ⟨_, rfl⟩
          rw [hx] at e0 e1 hm HM
          have HX := Lib.hid hx
          clear hB0 hbp hno hx
          go_wp2_with (fail)
          go_roundw
          case rel =>
            refine ⟨k + 1, by omega, by go_num, fun j hj hjk => ?_, HBP.out, HBW.out⟩
            rcases Nat.lt_or_ge j k with h | h
            · exact HNO.out j hj h
            · obtain rfl : j = k := by omega
              rw [HX.out]
              exact HM.out
          case measure => simp [intOf]; omega
      · obtain rfl : k = l.length := by omega
        have hg : getQ l n = 0 := getQ_none fun x hx => by
          obtain ⟨j, hj, rfl⟩ := List.getElem_of_mem hx
          exact HNO.out j hj hj
        have HG := Lib.hid hg
        clear hB0 hbp hno hg
        go_wp2
        go_ret
        exact ⟨by rw [HT.out, HG.out]; rfl, HBW.out⟩
  · have HT := Lib.hid (show markedS a l n = 0 by unfold markedS; rw [if_neg h0])
    rw [show rightB a l = false from decide_eq_false h0]
    clear h0
    go_wp2_with (fail)
    go_ret
    exact ⟨by rw [HT.out]; rfl, HB2.out⟩

set_option maxRecDepth 100000 in
set_option maxHeartbeats 4000000 in
theorem rcover_calls (a : Int) (l : List Mk) (A : Option Addr) (c B : Nat) (n : Int) (w : World) (h : PosOK w B a l A) (hB : B ≤ w.heap.size) :
    Calls Tryd.prog 23 #[.agg #[.int .i64 a, .slice A l.length c], .int .i64 n] w fun e w' => e = .returned (.int .i64 (coverS a l n)) ∧ Below w.heap.size w w' := by
  obtain ⟨gp, hgp⟩ : ∃ g, w.heap.size = g := ⟨_, rfl⟩
  obtain ⟨W1, hW1⟩ : ∃ W, w.alloc (.cells #[.int .i64 a, .slice A l.length c] 24) = W := ⟨_, rfl⟩
  have hb1 : Below w.heap.size w W1 := hW1 ▸ (Below.refl _ _).alloc (Nat.le_refl _) _
  have hp : Blk W1 gp 24 #[.int .i64 a, .slice A l.length c] := by rw [← hW1]; exact blkNew hgp
  have H0 := Lib.hid h
  have HB0 := Lib.hid hB
  have HBB : Hid (B ≤ W1.heap.size) := Lib.hid (Nat.le_trans hB hb1.size)
  have H := Lib.hid (h.below (hb1.mono hB))
  have HB1 := Lib.hid hb1
  have HP := Lib.hid hp
  have p0 : W1.cell? ⟨gp, 0, none⟩ = some (.int .i64 a) := hp.cell 0
  have p1 : W1.cell? ⟨gp, 1, none⟩ = some (.slice A l.length c) := hp.cell 1
  have hlen := H0.out.len
  clear h hb1 hp hB
  go_enter Tryd.func23, Tryd.ntmps23
  go_wp2_with (fail)
  refine (right_calls a l A c B W1 H.out HBB.out).mono ?_
  rintro e w2 ⟨rfl, hb2⟩
  have HP2 := Lib.hid (HP.out.below hb2 HP.out.lt)
  have HB2 := Lib.hid (HB1.out.trans (hb2.mono HB1.out.size))
  have H2 := Lib.hid (H.out.below (hb2.mono HBB.out))
  have HBB2 := Lib.hid (Nat.le_trans HBB.out hb2.size)
  have q0 : w2.cell? ⟨gp, 0, none⟩ = some (.int .i64 a) := HP2.out.cell 0
  have q1 : w2.cell? ⟨gp, 1, none⟩ = some (.slice A l.length c) := HP2.out.cell 1
  clear hb2 p0 p1 hW1 hgp
  by_cases h0 : (posCheck a l).1 = 0
  · have hr := right_of_check H.out.a1 h0
    have HCS := Lib.hid (show coverS a l n = a + getQ l n from right_cover hr n)
    have HMS := Lib.hid (show markedS a l n = getQ l n from right_marked hr n)
    have h1 := hr.a0
    have h2 := hr.sum
    have h3 := getQ_nonneg hr.q n
    have h4 := getQ_le hr.q n
    unfold MaxA at h2
    have h5 : a + getQ l n ≤ 9223372036854775807 := by omega
    have h6 : 0 ≤ a + getQ l n := by omega
    obtain ⟨WD, hWD⟩ : ∃ W, w2.drew = W := ⟨_, rfl⟩
    have HWD := Lib.hid hWD
    have HD := Lib.hid (hWD ▸ H2.out.below (Below.refl B w2).drew)
    have HPD := Lib.hid (hWD ▸ HP2.out.drew)
    have HBD := Lib.hid (hWD ▸ HB2.out.drew)
    have HBBD : Hid (B ≤ WD.heap.size) := Lib.hid (hWD ▸ HBB2.out)
    obtain ⟨gq, hgq⟩ : ∃ gq, getQ l n = gq := ⟨_, rfl⟩
    rw [hgq] at h3 h5 h6 HCS HMS
    have hwr : IntKind.i64.wrap (a + gq) = a + gq := IntWalk.i64_in _ (by omega)
    rw [show rightB a l = true from decide_eq_true h0]
    clear hr h0 h2 h4 hgq hWD
    go_upto_region 3 with fail
    go_region_held3 (fun w' => w'.cell? ⟨gp, 0, none⟩ = some (.int .i64 a) ∧ w'.cell? ⟨gp, 1, none⟩ = some (.slice A l.length c)) (first | go_keep | fail)
      (first | (go_at_call 21; rw [HWD.out]; refine (rmarked_calls a l A c B n WD HD.out HBBD.out).mono ?_; rintro e w3 ⟨rfl, hb3⟩; rw [HMS.out]; have hp3 := HPD.out.below hb3 HPD.out.lt; have r0 : w3.cell? ⟨gp, 0, none⟩ = some (.int .i64 a) := hp3.cell 0; have r1 : w3.cell? ⟨gp, 1, none⟩ = some (.slice A l.length c) := hp3.cell 1; have HB3 := Lib.hid (HBD.out.trans (hb3.mono HBD.out.size)); clear hp3 hb3))
    go_wp2
    go_ret
    exact ⟨by rw [HCS.out]; rfl, HB3.out⟩
  · have HT := Lib.hid (show coverS a l n = 0 by unfold coverS; rw [if_neg h0])
    rw [show rightB a l = false from decide_eq_false h0]
    clear h0
    go_wp2_with (fail)
    go_ret
    exact ⟨by rw [HT.out]; rfl, HB2.out⟩
end Go.Proofs.YtcgcgekefhhjhaaDoor
