/- Positions of package balance as cells; amount.Add and balance.total by contracts. -/
import Derived.Test.YtcgcgekefhhjhaaDoorBalW
import Derived.Test.YtcgcgekefhhjhaaDoorKit0
namespace Go.Proofs.YtcgcgekefhhjhaaDoor
set_option linter.unusedSimpArgs false
set_option linter.unusedVariables false
open Go.RowKit

def Mk.cs (x : Mk) : List Value := [.int .i64 x.m, .int .i64 x.q]
def marksC (l : List Mk) : List Value := l.flatMap Mk.cs
theorem Mk.len (x : Mk) : x.cs.length = 2 := rfl
theorem marks_at {w : World} {B : Nat} {A : Option Addr} {xs : List Mk} (h : Reads w B 2 A xs.length (marksC xs)) {k : Nat} (hk : k < xs.length) :
    ∃ ad, A = some ad ∧ ad.block < B ∧ w.cell? (ad.add (k * 2)) = some (.int .i64 xs[k].m) ∧ w.cell? ⟨(ad.add (k * 2)).block, (ad.add (k * 2)).off + 1, none⟩ = some (.int .i64 xs[k].q) := by
  obtain ⟨ad, e, hb, h0, h1⟩ := Reads.elem Mk.len h hk
  exact ⟨ad, e, hb, h0 _ rfl, h1 1 _ (by omega) rfl⟩

theorem blkNew {W : World} {g : Nat} {t : TypeId} {cs : Array Value} (h : W.heap.size = g) : Blk (W.alloc (.cells cs t)) g t cs := h ▸ Blk.new W t cs
/-- What amount.Add answers. -/
def addV (a b : Int) : Value := if 9223372036854775807 - b < a then .tuple #[.int .i64 0, .iface 96 (.agg #[.string ⟨#[115, 117, 109]⟩, .int .i64 9])] else .tuple #[.int .i64 (a + b), .nilIface]
set_option maxRecDepth 100000 in
set_option maxHeartbeats 2000000 in
theorem add_calls (a b : Int) (w : World) (ha : 0 ≤ a) (hb : 0 ≤ b) (hb2 : b ≤ 9223372036854775807) :
    Calls Tryd.prog 51 #[.int .i64 a, .int .i64 b] w fun e w' => e = .returned (addV a b) ∧ w' = w := by
  have h0 : 9223372036854775807 - b ≤ 9223372036854775807 := by omega
  have h1 : 0 ≤ 9223372036854775807 - b := by omega
  by_cases hm : 9223372036854775807 - b < a
  · rw [addV, if_pos hm]
    go_enter Tryd.func51, Tryd.ntmps51
    go_wp2
    go_ret2
    exact ⟨rfl, rfl⟩
  · rw [addV, if_neg hm]
    have h2 : a + b ≤ 9223372036854775807 := by omega
    go_enter Tryd.func51, Tryd.ntmps51
    go_wp2
    go_ret2
    exact ⟨rfl, rfl⟩

theorem pc1 {a : Int} {l : List Mk} (h : a < 0) : posCheck a l = (1, -1) := by unfold posCheck; rw [if_pos h]
theorem pc2 {a : Int} {l : List Mk} (h : 0 ≤ a) (h8 : 8 < l.length) : posCheck a l = (5, 8) := by unfold posCheck; rw [if_neg (by omega), if_pos h8]
theorem pc3 {a : Int} {l : List Mk} (h : 0 ≤ a) (h8 : l.length ≤ 8) {k : Nat} (hk : k < l.length) (hb : badB l k = true) (hn : ∀ j, j < k → badB l j = false) : posCheck a l = (1, (k : Int)) := by
  unfold posCheck
  rw [if_neg (by omega), if_neg (by omega), firstB_eq hk hb hn, if_pos hk]
theorem pc4 {a : Int} {l : List Mk} (h : 0 ≤ a) (h8 : l.length ≤ 8) (hn : ∀ j, j < l.length → badB l j = false) {k : Nat} (hk : k < l.length) (hb : overB a l k = true) (ho : ∀ j, j < k → overB a l j = false) : posCheck a l = (9, (k : Int)) := by
  unfold posCheck
  rw [if_neg (by omega), if_neg (by omega), firstB_none hn, if_neg (by omega), firstB_eq hk hb ho, if_pos hk]
theorem pc0 {a : Int} {l : List Mk} (h : 0 ≤ a) (h8 : l.length ≤ 8) (hn : ∀ j, j < l.length → badB l j = false) (ho : ∀ j, j < l.length → overB a l j = false) : posCheck a l = (0, 0) := by
  unfold posCheck
  rw [if_neg (by omega), if_neg (by omega), firstB_none hn, if_neg (by omega), firstB_none ho, if_neg (by omega)]

/-- An error of total: where it lies. -/
def InE (W : World) (B : Nat) (b : Int × Int) (v : Value) : Prop :=
  (b.1 = 0 ∧ v = .nilIface) ∨ (b.1 ≠ 0 ∧ ∃ g, B ≤ g ∧ v = .iface 82 (.pointer (some ⟨g, 0, none⟩)) ∧ Blk W g 84 #[.int .i64 b.2, .int .i64 b.1])
def TotTo (w : World) (a : Int) (l : List Mk) (e : Ending) (w' : World) : Prop :=
  Below w.heap.size w w' ∧ ∃ v, e = .returned (.tuple #[.int .i64 (totalS a l), v]) ∧ InE w' w.heap.size (posCheck a l) v
def posV (a : Int) (A : Option Addr) (n c : Nat) : Value := .agg #[.int .i64 a, .slice A n c]

set_option maxRecDepth 100000 in
set_option maxHeartbeats 4000000 in
theorem total_calls (a : Int) (l : List Mk) (A : Option Addr) (c B : Nat) (w : World) (hr : Reads w B 2 A l.length (marksC l)) (hB : B ≤ w.heap.size) (ha : a ≤ 9223372036854775807) (hq : ∀ x ∈ l, x.q ≤ 9223372036854775807) (hlen : l.length * 16 ≤ 140737488351232) :
    Calls Tryd.prog 39 #[.agg #[.int .i64 a, .slice A l.length c]] w (TotTo w a l) := by
  go_enter Tryd.func39, Tryd.ntmps39
  obtain ⟨gp, hgp⟩ : ∃ g, w.heap.size = g := ⟨_, rfl⟩
  have hbp : Blk (w.alloc (.cells #[.int .i64 a, .slice A l.length c] 24)) gp 24 #[.int .i64 a, .slice A l.length c] := hgp ▸ Blk.new _ _ _
  have hb0 : Below w.heap.size w (w.alloc (.cells #[.int .i64 a, .slice A l.length c] 24)) := (Below.refl _ _).alloc (Nat.le_refl _) _
  have hfit : ∀ (W : World) (no pl : Int) (g : Nat), no ≠ 0 → w.heap.size ≤ g → Blk W g 84 #[.int .i64 pl, .int .i64 no] → posCheck a l = (no, pl) → Below w.heap.size w W → TotTo w a l (.returned (.tuple #[.int .i64 0, .iface 82 (.pointer (some ⟨g, 0, none⟩))])) W := by
    intro W no pl g hno hg hb hp hB
    refine ⟨hB, _, ?_, .inr ⟨by rw [hp]; exact hno, g, hg, rfl, by rw [hp]; exact hb⟩⟩
    have : totalS a l = 0 := by unfold totalS; rw [hp, if_neg hno]
    rw [this]
  have HFit := Lib.hid hfit
  clear hfit
  by_cases h0 : a < 0
  · go_wp2_with (fail)
    go_ret2
    exact HFit.out _ _ _ _ (by decide) (by omega) (blkNew (by simp [hgp])) (pc1 h0) (hb0.alloc hb0.size _)
  · by_cases h8 : 8 < l.length
    · have h8i : (8 : Int) < (l.length : Int) := by omega
      go_wp2_with (fail)
      go_ret2
      exact HFit.out _ _ _ _ (by decide) (by omega) (blkNew (by simp [hgp])) (pc2 (by omega) h8) (hb0.alloc hb0.size _)
    · have h8i : ¬ (8 : Int) < (l.length : Int) := by omega
      have hle8 : l.length ≤ 8 := by omega
      have ha0 : 0 ≤ a := by omega
      have HBP := Lib.hid hbp
      have HB0 := Lib.hid hb0
      clear h0 h8 hbp hb0
      go_wp2_with (fail)
      clear h8i
      go_loopw [4, 28] (fun la i wr => ∃ k : Nat, k ≤ l.length ∧ i = .int .i64 k ∧ la = .int .i64 (lastN l k) ∧ (∀ j, j < k → badB l j = false) ∧ Blk wr gp 24 #[.int .i64 a, .slice A l.length c] ∧ Below w.heap.size w wr) (fun _ i _ => l.length - (intOf i).toNat)
      case atStart => exact ⟨0, Nat.zero_le _, rfl, rfl, fun j hj => by omega, HBP.out, HB0.out⟩
      case round =>
        clear HBP HB0
        obtain ⟨k, hk, rfl, rfl, hno, hbp, hB0⟩ := hrel
        by_cases hlt : k < l.length
        · have hkl : (k : Int) < l.length := by omega
          obtain ⟨ad, rfl, hadb, e0, e1⟩ := marks_at (hr.below (hB0.mono hB)) hlt
          have hbd : badB l k = decide (l[k].m ≤ lastN l k ∨ 65536 < l[k].m ∨ l[k].q < 1) := by unfold badB; rw [List.getElem?_eq_getElem hlt]
          have hls := lastN_succ hlt
          obtain ⟨x, hx⟩ : ∃ x, l[k] = x := ⟨_, rfl⟩
          rw [hx] at e0 e1 hbd hls
          obtain ⟨la, hla⟩ : ∃ la, lastN l k = la := ⟨_, rfl⟩
          rw [hla] at hbd ⊢
          have HNO := Lib.hid hno
          have HBP := Lib.hid hbp
          have HB0 := Lib.hid hB0
          have HBD := Lib.hid hbd
          have HLS := Lib.hid hls
          clear hno hbp hB0 hbd hls hx hla
          have hnew : ∀ (W : World) (g : Nat), badB l k = true → Blk W g 84 #[.int .i64 (k : Int), .int .i64 1] → w.heap.size ≤ g → Below w.heap.size w W → TotTo w a l (.returned (.tuple #[.int .i64 0, .iface 82 (.pointer (some ⟨g, 0, none⟩))])) W :=
            fun W g hb hg hg2 hB => HFit.out _ _ _ _ (by decide) hg2 hg (pc3 ha0 hle8 hlt hb HNO.out) hB
          have HNEW := Lib.hid hnew
          clear hnew
          by_cases h1 : x.m ≤ la
          · go_wp2_with (fail)
            go_ret2
            refine HNEW.out _ _ (by rw [HBD.out]; simp [h1]) (blkNew (by simp)) ?_ ?_
            · have := HB0.out.size; simp; omega
            · exact (HB0.out.alloc HB0.out.size _).alloc (by have := HB0.out.size; simp; omega) _
          · by_cases h2 : 65536 < x.m
            · go_wp2_with (fail)
              go_ret2
              refine HNEW.out _ _ (by rw [HBD.out]; simp [h2]) (blkNew (by simp)) ?_ ?_
              · have := HB0.out.size; simp; omega
              · exact (HB0.out.alloc HB0.out.size _).alloc (by have := HB0.out.size; simp; omega) _
            · by_cases h3 : x.q < 1
              · go_wp2_with (fail)
                go_ret2
                refine HNEW.out _ _ (by rw [HBD.out]; simp [h3]) (blkNew (by simp)) ?_ ?_
                · have := HB0.out.size; simp; omega
                · exact (HB0.out.alloc HB0.out.size _).alloc (by have := HB0.out.size; simp; omega) _
              · have hbf : badB l k = false := by rw [HBD.out]; simp; omega
                have HBF := Lib.hid hbf
                clear hbf
                go_wp2_with (fail)
                go_roundw
                case rel =>
                  refine ⟨k + 1, by omega, by go_num, by rw [HLS.out], fun j hj => ?_, HBP.out.alloc _, HB0.out.alloc HB0.out.size _⟩
                  rcases Nat.lt_or_ge j k with h | h
                  · exact HNO.out j h
                  · obtain rfl : j = k := by omega
                    exact HBF.out
                case measure => simp [intOf]; omega
        · obtain rfl : k = l.length := by omega
          have HNO := Lib.hid hno
          have HBP := Lib.hid hbp
          have HB0 := Lib.hid hB0
          have p0 : wr.cell? ⟨gp, 0, none⟩ = some (.int .i64 a) := hbp.cell 0
          have p1 : wr.cell? ⟨gp, 1, none⟩ = some (.slice A l.length c) := hbp.cell 1
          clear hno hbp hB0 hlt
          go_wp2_with (fail)
          clear p0 p1
          rename World => w1
          go_loopw [7, 59] (fun su i wr => ∃ k : Nat, k ≤ l.length ∧ i = .int .i64 k ∧ su = .int .i64 (sumTo a l k) ∧ 0 ≤ sumTo a l k ∧ sumTo a l k ≤ 9223372036854775807 ∧ (∀ j, j < k → overB a l j = false) ∧ Below w.heap.size w wr) (fun _ i _ => l.length - (intOf i).toNat)
          case atStart => exact ⟨0, Nat.zero_le _, rfl, by rw [sumTo_zero], by rw [sumTo_zero]; exact ha0, by rw [sumTo_zero]; exact ha, fun j hj => by omega, HB0.out⟩
          case round =>
            clear HBP HB0
            obtain ⟨k, hk, rfl, rfl, hs0, hs1, hno, hB0⟩ := hrel
            by_cases hlt : k < l.length
            · have hkl : (k : Int) < l.length := by omega
              obtain ⟨ad, rfl, hadb, e0, e1⟩ := marks_at (hr.below (hB0.mono hB)) hlt
              have hbd : overB a l k = decide (9223372036854775807 - sumTo a l k < l[k].q) := by unfold overB; rw [List.getElem?_eq_getElem hlt]; rfl
              have hls := sumTo_succ a hlt
              have hnb := HNO.out k hlt
              have hq0 : 1 ≤ l[k].q := by
                unfold badB at hnb
                rw [List.getElem?_eq_getElem hlt] at hnb
                simp at hnb
                omega
              have hq1 := hq l[k] (by simp)
              obtain ⟨x, hx⟩ : ∃ x, l[k] = x := ⟨_, rfl⟩
              rw [hx] at e0 e1 hbd hls hq0 hq1
              obtain ⟨su, hsu⟩ : ∃ su, sumTo a l k = su := ⟨_, rfl⟩
              rw [hsu] at hbd hs0 hs1 hls ⊢
              have HOV := Lib.hid hno
              have HB0 := Lib.hid hB0
              have HBD := Lib.hid hbd
              have HLS := Lib.hid hls
              clear hno hB0 hbd hls hx hsu hnb
              by_cases hov : 9223372036854775807 - x.q < su
              · have hadd : addV su x.q = .tuple #[.int .i64 0, .iface 96 (.agg #[.string ⟨#[115, 117, 109]⟩, .int .i64 9])] := if_pos hov
                go_wp2_with (go_at_call 51; refine (add_calls su x.q _ hs0 (by omega) hq1).mono ?_; rintro e w' ⟨rfl, rfl⟩; rw [hadd])
                go_ret2
                refine HFit.out _ _ _ _ (by decide) ?_ (blkNew (by simp)) (pc4 ha0 hle8 HNO.out hlt (by rw [HBD.out]; simp; omega) HOV.out) ?_
                · have := HB0.out.size; simp; omega
                · exact (HB0.out.alloc HB0.out.size _).alloc (by have := HB0.out.size; simp; omega) _
              · have hadd : addV su x.q = .tuple #[.int .i64 (su + x.q), .nilIface] := if_neg hov
                have hov2 : overB a l k = false := by rw [HBD.out]; simp; omega
                have HOV2 := Lib.hid hov2
                clear hov2
                go_wp2_with (go_at_call 51; refine (add_calls su x.q _ hs0 (by omega) hq1).mono ?_; rintro e w' ⟨rfl, rfl⟩; rw [hadd])
                go_roundw
                case rel =>
                  refine ⟨k + 1, by omega, by go_num, by rw [HLS.out], by rw [HLS.out]; omega, by rw [HLS.out]; omega, fun j hj => ?_, HB0.out.alloc HB0.out.size _⟩
                  rcases Nat.lt_or_ge j k with h | h
                  · exact HOV.out j h
                  · obtain rfl : j = k := by omega
                    exact HOV2.out
                case measure => simp [intOf]; omega
            · obtain rfl : k = l.length := by omega
              have hp := pc0 ha0 hle8 HNO.out hno
              have ht : totalS a l = sumTo a l l.length := by
                unfold totalS
                rw [hp, if_pos rfl, sumTo_all]
              have HP := Lib.hid hp
              have HT := Lib.hid ht
              have HB0 := Lib.hid hB0
              clear hp ht hB0 hno hs0 hs1
              go_wp2
              go_ret2
              exact ⟨HB0.out, _, by rw [HT.out]; rfl, .inl ⟨by rw [HP.out], rfl⟩⟩
end Go.Proofs.YtcgcgekefhhjhaaDoor
