/- The document's versions (custodyref10): At, Last, Prune. -/
import Derived.Test.YtmljiegeingpeaaDoorWide
import Derived.Test.YtmljiegeingpeaaDoorRef10
namespace Go.Proofs.YtmljiegeingpeaaDoor
set_option linter.unusedSimpArgs false
set_option linter.unusedVariables false
open Go.RowKit

def MaxV (l : List VerS) : Prop := ∀ x ∈ l, x.n ≤ 9223372036854775807
theorem leN_max {l : List VerS} (h : MaxV l) : leN l 9223372036854775807 = l.length := by
  unfold leN
  rw [List.filter_eq_self.2 (fun x hx => by simpa using h x hx)]

set_option maxRecDepth 100000 in
set_option maxHeartbeats 2000000 in
theorem rat_calls (l : List VerS) (hu : UpV l) (A : Option Addr) (c : Nat) (n : Int) (w : World) (hr : Reads w w.heap.size 2 A l.length (versC l)) (hlen : l.length ≤ 9382499223000) :
    Calls Tryd.prog 48 #[.slice A l.length c, .int .i64 n] w fun e w' => e = .returned (.tuple #[.string (atV l n), .bool (decide (0 < leN l n))]) ∧ Below w.heap.size w w' := by
  have hle := leN_le l n
  have HR := Lib.hid hr
  by_cases hm : leN l n = 0
  · have ha : atV l n = ByteArray.empty := if_pos hm
    have hd : decide (0 < leN l n) = false := by simp [hm]
    rw [ha, hd]
    have HM := Lib.hid hm
    clear ha hd hr hle hm
    go_enter Tryd.func48, Tryd.ntmps48
    go_wp2_with (go_at_call 38; refine (counts_calls l hu A c n w HR.out hlen).mono ?_; rintro e w1 ⟨rfl, hb1⟩; rw [HM.out])
    go_ret2
    exact ⟨rfl, hb1⟩
  · obtain ⟨m, hm2⟩ : ∃ m, leN l n = m + 1 := ⟨leN l n - 1, by omega⟩
    have hml : m < l.length := by omega
    have ha : atV l n = l[m].v := by unfold atV; rw [if_neg hm, show leN l n - 1 = m by omega, List.getElem?_eq_getElem hml]; rfl
    have hd : decide (0 < leN l n) = true := by simp; omega
    rw [ha, hd]
    obtain ⟨ad, rfl, hadb, e0, e1⟩ := vers_at hr hml
    have HM := Lib.hid (by omega : ((leN l n : Nat) : Int) - 1 = m)
    have hm0 : (0 : Int) ≤ m := by omega
    generalize l[m] = x at e0 e1 ⊢
    clear ha hd hr hle hm hm2
    go_enter Tryd.func48, Tryd.ntmps48
    go_wp2_with (go_at_call 38; refine (counts_calls l hu (some ad) c n w HR.out hlen).mono ?_; rintro e w1 ⟨rfl, hb1⟩; rw [HM.out]; have f0 := cell_below hb1 e0; have f1 := cell_below hb1 e1)
    go_ret2
    exact ⟨rfl, hb1⟩

/-- The newest version's text. -/
def lastV (l : List VerS) : ByteArray := (l.getLast?.map (·.v)).getD ByteArray.empty
theorem lastV_pos {l : List VerS} (h : 0 < l.length) : lastV l = l[l.length - 1].v := by
  unfold lastV
  rw [List.getLast?_eq_getElem?, List.getElem?_eq_getElem (by omega)]
  rfl
def lastM (l : List VerS) : Int := if l.length = 0 then 0 else lastNo l

set_option maxRecDepth 100000 in
set_option maxHeartbeats 2000000 in
theorem rlast_calls (l : List VerS) (hu : UpV l) (hx : MaxV l) (A : Option Addr) (c : Nat) (w : World) (hr : Reads w w.heap.size 2 A l.length (versC l)) (hlen : l.length ≤ 9382499223000) :
    Calls Tryd.prog 49 #[.slice A l.length c] w fun e w' => e = .returned (.tuple #[.string (lastV l), .int .i64 (lastM l), .bool (decide (0 < l.length))]) ∧ Below w.heap.size w w' := by
  have HR := Lib.hid hr
  have HMX := Lib.hid (leN_max hx)
  by_cases hm : l.length = 0
  · have ha : lastV l = ByteArray.empty := by have : l = [] := List.eq_nil_of_length_eq_zero hm; subst this; rfl
    have hb : lastM l = 0 := if_pos hm
    have hd : decide (0 < l.length) = false := by simp [hm]
    rw [ha, hb, hd]
    have HM := Lib.hid hm
    clear ha hb hd hr hm hx
    go_enter Tryd.func49, Tryd.ntmps49
    go_wp2_with (go_at_call 38; refine (counts_calls l hu A c 9223372036854775807 w HR.out hlen).mono ?_; rintro e w1 ⟨rfl, hb1⟩; rw [HMX.out, HM.out])
    go_ret3
    exact ⟨rfl, hb1⟩
  · obtain ⟨m, hm2⟩ : ∃ m, l.length = m + 1 := ⟨l.length - 1, by omega⟩
    have hml : m < l.length := by omega
    have ha : lastV l = l[m].v := by rw [lastV_pos (by omega)]; congr 2; omega
    have hb : lastM l = l[m].n := by unfold lastM; rw [if_neg hm, lastNo_pos (by omega)]; congr 2; omega
    have hd : decide (0 < l.length) = true := by simp; omega
    rw [ha, hb, hd]
    obtain ⟨ad, rfl, hadb, e0, e1⟩ := vers_at hr hml
    have HM := Lib.hid (by omega : ((l.length : Nat) : Int) - 1 = m)
    have hm0 : (0 : Int) ≤ m := by omega
    generalize l[m] = x at e0 e1 ⊢
    clear ha hb hd hr hm hm2 hx
    go_enter Tryd.func49, Tryd.ntmps49
    go_wp2_with (go_at_call 38; refine (counts_calls l hu (some ad) c 9223372036854775807 w HR.out hlen).mono ?_; rintro e w1 ⟨rfl, hb1⟩; rw [HMX.out, HM.out]; have f0 := cell_below hb1 e0; have f1 := cell_below hb1 e1)
    go_quiet (fail)
    go_wp2
    go_ret3
    exact ⟨rfl, below_drewN hb1 _⟩

set_option maxRecDepth 100000 in
set_option maxHeartbeats 4000000 in
theorem rprune_calls (l : List VerS) (hu : UpV l) (sv : Value) (n : Int) (w : World) (h : RowR w sv l) (hlen : l.length ≤ 9382499223000) :
    Calls Tryd.prog 22 #[sv, .int .i64 n] w fun e w' => ∃ v', e = .returned (.tuple #[v', .int .i64 (pruneN l n)]) ∧ RowR w' v' (pruneL l n) ∧ Below w.heap.size w w' := by
  obtain ⟨i0, hi0, hz0, hz1, hz2⟩ := info_parts infoVersR
  obtain ⟨A, c, rfl⟩ := own_slice h
  have hr := Reads.of_own h
  have H := Lib.hid h
  have HR := Lib.hid hr
  have hle := leN_le l n
  clear h
  by_cases hm : leN l n = 0
  · have e1 : pruneN l n = 0 := by unfold pruneN; rw [if_pos (by omega)]
    have e2 : pruneL l n = l := by unfold pruneL; rw [if_pos (by omega)]
    rw [e1, e2]
    have HM := Lib.hid hm
    clear e1 e2 hr hle hm
    go_enter Tryd.func22, Tryd.ntmps22
    go_wp2_with (go_at_call 38; refine (counts_calls l hu A c n w HR.out hlen).mono ?_; rintro e w1 ⟨rfl, hb1⟩; rw [HM.out])
    go_ret2
    exact ⟨_, rfl, own_below H.out hb1, hb1⟩
  · obtain ⟨m, hm2⟩ : ∃ m, leN l n = m + 1 := ⟨leN l n - 1, by omega⟩
    have hml : m < l.length := by omega
    have e1 : pruneN l n = m := by unfold pruneN; split <;> omega
    have e2 : pruneL l n = l.drop m := by
      unfold pruneL
      split
      · obtain rfl : m = 0 := by omega
        simp
      · rw [show leN l n - 1 = m by omega]
    rw [e1, e2]
    have HM := Lib.hid (by omega : ((leN l n : Nat) : Int) - 1 = m)
    have hm0 : (0 : Int) ≤ m := by omega
    clear e1 e2 hle hm hm2
    go_enter Tryd.func22, Tryd.ntmps22
    go_wp2_with (go_at_call 38; refine (counts_calls l hu A c n w HR.out hlen).mono ?_; rintro e w1 ⟨rfl, hb1⟩; rw [HM.out])
    go_loopw [7, 8] (fun v i wr => ∃ k : Nat, k ≤ l.length ∧ i = .int .i64 k ∧ wr.ownsRow w.heap.size 72 2 v (k - m) (versC ((l.take k).drop m)) ∧ Below w.heap.size w wr) (fun _ i _ => l.length - (intOf i).toNat)
    case atStart => exact ⟨0, Nat.zero_le _, rfl, by simpa [versC] using World.ownsRow_nil _ _ _ _, hb1⟩
    case round =>
      clear hb1
      obtain ⟨k, hk, rfl, hown, B⟩ := hrel
      by_cases hlt : k < l.length
      · have hkl : (k : Int) < l.length := by omega
        obtain ⟨ad, rfl, hadb, f0, f1⟩ := vers_at (hr.below B) hlt
        obtain ⟨ad2, had2, hz1, g0, hz2⟩ := vers_at (hr.below B) hml
        cases had2
        clear hz1 hz2
        by_cases hkm : m ≤ k
        · have hge := hu.le hkm hlt
          have htk : (l.take (k + 1)).drop m = (l.take k).drop m ++ [l[k]] := by
            rw [List.take_succ_eq_append_getElem hlt, List.drop_append_of_le_length (by simp; omega)]
          have HTK := Lib.hid htk
          generalize hx : l[k] = x at f0 f1 hge HTK
          generalize l[m].n = y at g0 hge
          have hd : decide (y ≤ x.n) = true := by simpa using hge
          have HO := Lib.hid hown
          have hk1 : k + 1 - m = k - m + 1 := by omega
          have HK1 := Lib.hid hk1
          clear hr htk hx hown hk1
          go_wp2_with (fail)
          go_quiet (fail)
          obtain ⟨W1, hW1⟩ : ∃ W, wr.drewN nq = W := ⟨_, rfl⟩
          have BW : Below w.heap.size w W1 := hW1 ▸ below_drewN B nq
          have HOW := Lib.hid (hW1 ▸ (show (wr.drewN nq).ownsRow w.heap.size 72 2 _ (k - m) (versC ((l.take k).drop m)) from HO.out))
          replace f0 : W1.cell? (ad.add (k * 2)) = some (.int .i64 x.n) := hW1 ▸ (show (wr.drewN nq).cell? _ = _ from f0)
          replace f1 : W1.cell? ⟨(ad.add (k * 2)).block, (ad.add (k * 2)).off + 1, none⟩ = some (.string x.v) := hW1 ▸ (show (wr.drewN nq).cell? _ = _ from f1)
          rw [hW1]
          clear hW1 HO g0 hge hd B
          go_wp2_with (at_builtin; refine wpList_append_own_wide _ rfl (.tmp 32) (.tmp 37) 46 rfl w.heap.size 72 i0 _ 2 24 Tryd.underlying46 hi0 hz0 hz1 hz2 rfl (by decide) _ (k - m) (versC ((l.take k).drop m)) rfl (HOW.out.alloc _) ⟨W1.heap.size, 0, none⟩ 1 1 [.int .i64 x.n, .string x.v] rfl rfl ?_ ?_ ?_ ?_ ?_ ?_; exact new_cells W1 72 [.int .i64 x.n, .string x.v]; (simp [Value.oneCell']); (unfold maxLen; omega); (omega); (have := BW.size; simp; omega); intro v1 w2 hown2 hg2 _)
          go_roundw
          case rel =>
            refine ⟨k + 1, by omega, by go_num, ?_, (BW.alloc BW.size _).grown hg2 (by have := BW.size; simp; omega) (fun b hb => own_base HOW.out hb)⟩
            rw [HTK.out, HK1.out, versC, flat_snoc]
            exact hown2
          case measure => simp [intOf]; omega
        · have hge := hu.lt (i := k) (j := m) (by omega) hml
          have htk : (l.take (k + 1)).drop m = (l.take k).drop m := by
            rw [List.drop_of_length_le (by simp; omega), List.drop_of_length_le (by simp; omega)]
          have HTK := Lib.hid htk
          generalize l[k].n = x at f0 hge
          generalize l[m].n = y at g0 hge
          have hd : decide (y ≤ x) = false := by simp; omega
          have HO := Lib.hid hown
          have HK1 := Lib.hid (by omega : k + 1 - m = k - m)
          clear hr htk hown f1
          go_wp2_with (fail)
          go_quiet (fail)
          go_wp2_with (fail)
          go_roundw
          case rel =>
            refine ⟨k + 1, by omega, by go_num, ?_, below_drewN B nq⟩
            rw [HTK.out, HK1.out]
            exact HO.out
          case measure => simp [intOf]; omega
      · obtain rfl : k = l.length := by omega
        rw [List.take_length] at hown
        have hd : (l.drop m).length = l.length - m := by simp
        obtain ⟨A2, c2, rfl⟩ := own_slice hown
        have HO := Lib.hid hown
        have HD := Lib.hid hd
        have hs : ((l.length : Nat) : Int) - ((l.length - m : Nat) : Int) = m := by omega
        clear hown hd hr
        go_wp2
        go_ret2
        refine ⟨_, rfl, ?_, B⟩
        unfold RowR
        rw [HD.out]
        exact own_base0 HO.out
end Go.Proofs.YtmljiegeingpeaaDoor
