/- custodyref10: Put and Prune, and where new rows lie (printed by gen_rn.py out of chapter 10). -/
import Derived.Test.YtflkddllofeiaaaGreatDoorRef10b
import Derived.BigQuiet
namespace Go.Proofs.YtflkddllofeiaaaGreatDoor
set_option linter.unusedSimpArgs false
set_option linter.unusedVariables false
open Go.RowKit
set_option maxRecDepth 100000 in
set_option maxHeartbeats 4000000 in
theorem rput2_calls (l : List VerS) (hu : UpV l) (sv : Value) (n : Int) (v : ByteArray) (w : World) (h : RowR w sv l) (hlen : l.length < 9382499223000) :
    Calls Tryz.prog 72 #[sv, .int .i64 n, .string v] w fun e w' => ∃ v', e = .returned (.tuple #[v', .int .i64 (putE l n)]) ∧ RowR w' v' (putL l ⟨n, v⟩) ∧ Below w.heap.size w w' ∧ (putE l n = 0 → ∀ b, v'.ownBlock = some b → w.heap.size ≤ b) := by
  obtain ⟨i0, hi0, hz0, hz1, hz2⟩ := info_parts infoVersR
  obtain ⟨A, c, rfl⟩ := own_slice h
  have hr := Reads.of_own h
  have H := Lib.hid h
  clear h
  go_enter Tryz.func72, Tryz.ntmps72
  by_cases hn : n < 0
  · have hm : mayPut l n = false := by simp [mayPut]; omega
    have e1 : putE l n = 1 := by simp [putE, hm]
    have e2 : putL l ⟨n, v⟩ = l := by simp [putL, hm]
    rw [e1, e2]
    clear e1 e2 hm hr
    go_wp2
    go_ret2
    exact ⟨_, rfl, H.out, Below.refl _ _, fun h => absurd h (by decide)⟩
  · have hn0 : 0 ≤ n := by omega
    clear hn
    go_wp2_with (fail)
    go_loopw [8] (fun i wr => ∃ k : Nat, k ≤ l.length ∧ i = .int .i64 k ∧ (∀ j (hj : j < l.length), j < k → l[j].n < n) ∧ w = wr) (fun i _ => l.length - (intOf i).toNat)
    case atStart => exact ⟨0, Nat.zero_le _, rfl, fun j _ h => absurd h (by omega), rfl⟩
    case round =>
      obtain ⟨k, hk, rfl, hall, rfl⟩ := hrel
      have HA := Lib.hid hall
      clear hall
      by_cases hlt : k < l.length
      · have hkl : (k : Int) < l.length := by omega
        obtain ⟨ad, rfl, hadb, f0, f1⟩ := vers_at hr hlt
        by_cases hx : n ≤ l[k].n
        · have hm : mayPut l n = false := by
            have := hu.le_last (x := l[k]) (by simp)
            simp [mayPut]; omega
          have e1 : putE l n = 1 := by simp [putE, hm]
          have e2 : putL l ⟨n, v⟩ = l := by simp [putL, hm]
          have E1 := Lib.hid e1
          have E2 := Lib.hid e2
          generalize l[k].n = y at hx f0
          clear e1 e2 hm hr f1
          go_wp2
          go_ret2
          exact ⟨_, by rw [E1.out]; rfl, by rw [E2.out]; exact H.out, Below.refl _ _, by rw [E1.out]; exact fun h => absurd h (by decide)⟩
        · have hx2 : l[k].n < n := by omega
          have HX := Lib.hid hx2
          generalize l[k].n = y at hx2 f0
          have hk2 := Lib.hid hr
          clear hx hr f1
          go_wp2_with (fail)
          go_roundw
          case rel =>
            refine ⟨k + 1, by omega, by go_num, fun j hj hjk => ?_, by trivial⟩
            rcases Nat.lt_or_ge j k with h1 | h1
            · exact HA.out j hj h1
            · obtain rfl : j = k := by omega
              exact HX.out
          case measure => simp [intOf]; omega
      · obtain rfl : k = l.length := by omega
        have hm : mayPut l n = true := by
          have hl : lastNo l < n := by
            by_cases h0 : 0 < l.length
            · rw [lastNo_pos h0]; exact HA.out _ (by omega) (by omega)
            · have : l = [] := List.eq_nil_of_length_eq_zero (by omega)
              subst this
              simp [lastNo]; omega
          simp [mayPut]; omega
        have E1 := Lib.hid (by simp [putE, hm] : putE l n = 0)
        have E2 := Lib.hid (by simp [putL, hm] : putL l ⟨n, v⟩ = l ++ [⟨n, v⟩])
        have HR := Lib.hid hr
        clear hm hr
        go_wp2_with (first
          | (go_at_call 98; refine (copyV_calls l A c w HR.out (by omega)).mono ?_; rintro e w1 ⟨v0, rfl, hown, hb1⟩)
          | (at_builtin; refine wpList_append_own_wide _ rfl (.tmp 29) (.tmp 33) 75 rfl w.heap.size 153 i0 _ 2 24 Tryz.underlying75 hi0 hz0 hz1 hz2 rfl (by decide) _ l.length (versC l) rfl (hown.alloc _) ⟨w1.heap.size, 0, none⟩ 1 1 [.int .i64 n, .string v] rfl rfl ?_ ?_ ?_ ?_ ?_ ?_; exact new_cells w1 153 [.int .i64 n, .string v]; (simp [Value.oneCell']); (unfold maxLen; omega); (omega); (have := hb1.size; simp; omega); intro v1 w2 hown2 hg2 _))
        go_ret2
        refine ⟨_, by rw [E1.out]; rfl, ?_, (hb1.alloc hb1.size _).grown hg2 (by have := hb1.size; simp; omega) (fun b hb => own_base hown hb), fun _ b hb => own_base hown2 hb⟩
        have e1 : (l ++ [(⟨n, v⟩ : VerS)]).length = l.length + 1 := by simp
        have e2 : versC (l ++ [(⟨n, v⟩ : VerS)]) = versC l ++ [.int .i64 n, .string v] := by simp [versC, VerS.cs]
        rw [E2.out]
        unfold RowR
        rw [e1, e2]
        exact own_base0 hown2
set_option maxRecDepth 100000 in
set_option maxHeartbeats 4000000 in
theorem rprune2_calls (l : List VerS) (hu : UpV l) (sv : Value) (n : Int) (w : World) (h : RowR w sv l) (hlen : l.length ≤ 9382499223000) :
    Calls Tryz.prog 77 #[sv, .int .i64 n] w fun e w' => ∃ v', e = .returned (.tuple #[v', .int .i64 (pruneN l n)]) ∧ RowR w' v' (pruneL l n) ∧ Below w.heap.size w w' ∧ (0 < pruneN l n → ∀ b, v'.ownBlock = some b → w.heap.size ≤ b) := by
  obtain ⟨i0, hi0, hz0, hz1, hz2⟩ := info_parts infoVersR
  obtain ⟨A, c, rfl⟩ := own_slice h
  have hr := Reads.of_own h
  have H := Lib.hid h
  have HR := Lib.hid hr
  have hle := leN_le l n
  clear h
  by_cases hm : leN l n = 0
  · have e1 : pruneN l n = 0 := by unfold pruneN; rw [if_pos (by omega)]
    have e2 : pruneL l n = l := by unfold pruneL; rw [if_pos (by omega)]
    rw [e1, e2]
    have HM := Lib.hid hm
    clear e1 e2 hr hle hm
    go_enter Tryz.func77, Tryz.ntmps77
    go_wp2_with (go_at_call 100; refine (counts_calls l hu A c n w HR.out hlen).mono ?_; rintro e w1 ⟨rfl, hb1⟩; rw [HM.out])
    go_ret2
    exact ⟨_, rfl, own_below H.out hb1, hb1, fun h => absurd h (by decide)⟩
  · obtain ⟨m, hm2⟩ : ∃ m, leN l n = m + 1 := ⟨leN l n - 1, by omega⟩
    have hml : m < l.length := by omega
    have e1 : pruneN l n = m := by unfold pruneN; split <;> omega
    have e2 : pruneL l n = l.drop m := by
      unfold pruneL
      split
      · obtain rfl : m = 0 := by omega
        simp
      · rw [show leN l n - 1 = m by omega]
    rw [e1, e2]
    have HM := Lib.hid (by omega : ((leN l n : Nat) : Int) - 1 = m)
    have hm0 : (0 : Int) ≤ m := by omega
    clear e1 e2 hle hm hm2
    go_enter Tryz.func77, Tryz.ntmps77
    go_wp2_with (go_at_call 100; refine (counts_calls l hu A c n w HR.out hlen).mono ?_; rintro e w1 ⟨rfl, hb1⟩; rw [HM.out])
    go_loopw [7, 8] (fun v i wr => ∃ k : Nat, k ≤ l.length ∧ i = .int .i64 k ∧ wr.ownsRow w.heap.size 153 2 v (k - m) (versC ((l.take k).drop m)) ∧ Below w.heap.size w wr) (fun _ i _ => l.length - (intOf i).toNat)
    case atStart => exact ⟨0, Nat.zero_le _, rfl, by simpa [versC] using World.ownsRow_nil _ _ _ _, hb1⟩
    case round =>
      clear hb1
      obtain ⟨k, hk, rfl, hown, B⟩ := hrel
      by_cases hlt : k < l.length
      · have hkl : (k : Int) < l.length := by omega
        obtain ⟨ad, rfl, hadb, f0, f1⟩ := vers_at (hr.below B) hlt
        obtain ⟨ad2, had2, hz1, g0, hz2⟩ := vers_at (hr.below B) hml
        cases had2
        clear hz1 hz2
        by_cases hkm : m ≤ k
        · have hge := hu.le hkm hlt
          have htk : (l.take (k + 1)).drop m = (l.take k).drop m ++ [l[k]] := by
            rw [List.take_succ_eq_append_getElem hlt, List.drop_append_of_le_length (by simp; omega)]
          have HTK := Lib.hid htk
          generalize hx : l[k] = x at f0 f1 hge HTK
          generalize l[m].n = y at g0 hge
          have hd : decide (y ≤ x.n) = true := by simpa using hge
          have HO := Lib.hid hown
          have hk1 : k + 1 - m = k - m + 1 := by omega
          have HK1 := Lib.hid hk1
          clear hr htk hx hown hk1
          go_wp2_with (fail)
          go_quiet (fail)
          obtain ⟨W1, hW1⟩ : ∃ W, wr.drewN nq = W := ⟨_, rfl⟩
          have BW : Below w.heap.size w W1 := hW1 ▸ below_drewN B nq
          have HOW := Lib.hid (hW1 ▸ (show (wr.drewN nq).ownsRow w.heap.size 153 2 _ (k - m) (versC ((l.take k).drop m)) from HO.out))
          replace f0 : W1.cell? (ad.add (k * 2)) = some (.int .i64 x.n) := hW1 ▸ (show (wr.drewN nq).cell? _ = _ from f0)
          replace f1 : W1.cell? ⟨(ad.add (k * 2)).block, (ad.add (k * 2)).off + 1, none⟩ = some (.string x.v) := hW1 ▸ (show (wr.drewN nq).cell? _ = _ from f1)
          rw [hW1]
          clear hW1 HO g0 hge hd B
          go_wp2_with (at_builtin; refine wpList_append_own_wide _ rfl (.tmp 32) (.tmp 37) 75 rfl w.heap.size 153 i0 _ 2 24 Tryz.underlying75 hi0 hz0 hz1 hz2 rfl (by decide) _ (k - m) (versC ((l.take k).drop m)) rfl (HOW.out.alloc _) ⟨W1.heap.size, 0, none⟩ 1 1 [.int .i64 x.n, .string x.v] rfl rfl ?_ ?_ ?_ ?_ ?_ ?_; exact new_cells W1 153 [.int .i64 x.n, .string x.v]; (simp [Value.oneCell']); (unfold maxLen; omega); (omega); (have := BW.size; simp; omega); intro v1 w2 hown2 hg2 _)
          go_roundw
          case rel =>
            refine ⟨k + 1, by omega, by go_num, ?_, (BW.alloc BW.size _).grown hg2 (by have := BW.size; simp; omega) (fun b hb => own_base HOW.out hb)⟩
            rw [HTK.out, HK1.out, versC, flat_snoc]
            exact hown2
          case measure => simp [intOf]; omega
        · have hge := hu.lt (i := k) (j := m) (by omega) hml
          have htk : (l.take (k + 1)).drop m = (l.take k).drop m := by
            rw [List.drop_of_length_le (by simp; omega), List.drop_of_length_le (by simp; omega)]
          have HTK := Lib.hid htk
          generalize l[k].n = x at f0 hge
          generalize l[m].n = y at g0 hge
          have hd : decide (y ≤ x) = false := by simp; omega
          have HO := Lib.hid hown
          have HK1 := Lib.hid (by omega : k + 1 - m = k - m)
          clear hr htk hown f1
          go_wp2_with (fail)
          go_quiet (fail)
          go_wp2_with (fail)
          go_roundw
          case rel =>
            refine ⟨k + 1, by omega, by go_num, ?_, below_drewN B nq⟩
            rw [HTK.out, HK1.out]
            exact HO.out
          case measure => simp [intOf]; omega
      · obtain rfl : k = l.length := by omega
        rw [List.take_length] at hown
        have hd : (l.drop m).length = l.length - m := by simp
        obtain ⟨A2, c2, rfl⟩ := own_slice hown
        have HO := Lib.hid hown
        have HD := Lib.hid hd
        have hs : ((l.length : Nat) : Int) - ((l.length - m : Nat) : Int) = m := by omega
        clear hown hd hr
        go_wp2
        go_ret2
        refine ⟨_, rfl, ?_, B, fun _ b hb => own_base HO.out hb⟩
        unfold RowR
        rw [HD.out]
        exact own_base0 HO.out
end Go.Proofs.YtflkddllofeiaaaGreatDoor
