/- The document's versions (custodyref10): Counts, Copy, Put, At. -/
import Derived.Test.YtmljiegeingpeaaDoorWide
import Derived.Test.YtmljiegeingpeaaDoorChain3
import Derived.BigQuiet
namespace Go.Proofs.YtmljiegeingpeaaDoor
set_option linter.unusedSimpArgs false
set_option linter.unusedVariables false
open Go.RowKit

theorem infoVersR : (Tryd.prog.info? 72).map (fun i => (i.zero, i.size, i.bytes)) = some (some (.agg #[.int .i64 0, .string ⟨#[]⟩]), 2, 24) := by kernel_rfl

set_option maxRecDepth 100000 in
set_option maxHeartbeats 4000000 in
theorem counts_calls (l : List VerS) (hu : UpV l) (A : Option Addr) (c : Nat) (n : Int) (w : World) (hr : Reads w w.heap.size 2 A l.length (versC l)) (hlen : l.length ≤ 9382499223000) :
    Calls Tryd.prog 38 #[.slice A l.length c, .int .i64 n] w fun e w' => e = .returned (.int .i64 ((leN l n : Int) - 1)) ∧ Below w.heap.size w w' := by
  have hle := leN_le l n
  go_enter Tryd.func38, Tryd.ntmps38
  go_wp2_with (fail)
  go_loopw [5, 6] (fun b i wr => ∃ k : Nat, k ≤ l.length ∧ i = .int .i64 k ∧ b = .int .i64 ((min k (leN l n) : Nat) - 1 : Int) ∧ Below w.heap.size w wr) (fun _ i _ => l.length - (intOf i).toNat)
  case atStart => exact ⟨0, Nat.zero_le _, rfl, by simp, Below.refl _ _⟩
  case round =>
    obtain ⟨k, hk, rfl, rfl, B⟩ := hrel
    by_cases hlt : k < l.length
    · have hkl : (k : Int) < l.length := by omega
      obtain ⟨ad, rfl, hadb, e0, e1⟩ := vers_at (hr.below B) hlt
      have hiff := leN_lt hu (n := n) hlt
      by_cases hkn : k < leN l n
      · have hxn : l[k].n ≤ n := hiff.1 hkn
        by_cases hk0 : k = 0
        · have hmin : ((min k (leN l n) : Nat) - 1 : Int) = -1 := by omega
          rw [hmin]
          generalize l[k].n = y at hxn e0
          have hd1 : decide (y ≤ n) = true := by simpa using hxn
          have HK0 := Lib.hid hk0
          have HK := Lib.hid hkn
          have HR := Lib.hid hr
          clear hmin hiff e1 hkn hle hr hk0
          go_wp2_with (fail)
          go_quiet (fail)
          go_wp2
          exact ⟨⟨k + 1, by omega, by go_num, congrArg _ (by have := HK.out; omega), below_drewN B nq⟩, by simp [intOf]; omega⟩
        · obtain ⟨m, rfl⟩ : ∃ m, k = m + 1 := ⟨k - 1, by omega⟩
          have hmin : ((min (m + 1) (leN l n) : Nat) - 1 : Int) = m := by omega
          rw [hmin]
          obtain ⟨ad2, had2, hz1, f0, hz2⟩ := vers_at (hr.below B) (show m < l.length by omega)
          cases had2
          have hup := hu.lt (i := m) (j := m + 1) (by omega) hlt
          generalize l[m].n = z at hup f0
          generalize l[m + 1].n = y at hxn e0 hup
          have HK := Lib.hid hkn
          have HR := Lib.hid hr
          have hm0 : (0 : Int) ≤ m := by omega
          have hd1 : decide (y ≤ n) = true := by simpa using hxn
          have hd2 : decide (z < y) = true := by simpa using hup
          have hd3 : decide ((m : Int) < 0) = false := by simp
          clear hz1 hz2 hmin hiff e1 hkn hle hr
          go_wp2_with (fail)
          go_quiet (fail)
          go_wp2
          exact ⟨⟨m + 1 + 1, by omega, by go_num, congrArg _ (by have := HK.out; omega), below_drewN B nq⟩, by simp [intOf]; omega⟩
      · have hxn : n < l[k].n := by
          have := fun h => hkn (hiff.2 h)
          omega
        have hmin : min k (leN l n) = leN l n := by omega
        have hmin2 : min (k + 1) (leN l n) = leN l n := by omega
        rw [hmin]
        generalize l[k].n = y at hxn e0
        have hd1 : decide (y ≤ n) = false := by simp; omega
        have HM := Lib.hid hmin2
        have HR := Lib.hid hr
        clear hmin hmin2 hiff e1 hkn hle hr
        go_wp2_with (fail)
        go_quiet (fail)
        go_wp2
        exact ⟨⟨k + 1, by omega, by go_num, by rw [HM.out], below_drewN B nq⟩, by simp [intOf]; omega⟩
    · obtain rfl : k = l.length := by omega
      have hmin : min l.length (leN l n) = leN l n := by omega
      rw [hmin]
      go_wp2
      go_ret
      exact ⟨rfl, B⟩

set_option maxRecDepth 100000 in
set_option maxHeartbeats 4000000 in
theorem copyV_calls (l : List VerS) (A : Option Addr) (c : Nat) (w : World) (hr : Reads w w.heap.size 2 A l.length (versC l)) (hlen : l.length ≤ 9382499223000) :
    Calls Tryd.prog 35 #[.slice A l.length c] w fun e w' => ∃ v, e = .returned v ∧ w'.ownsRow w.heap.size 72 2 v l.length (versC l) ∧ Below w.heap.size w w' := by
  obtain ⟨i0, hi0, hz0, hz1, hz2⟩ := info_parts infoVersR
  go_enter Tryd.func35, Tryd.ntmps35
  go_wp2_with (fail)
  go_loopw [3, 4] (fun v i wr => ∃ k : Nat, k ≤ l.length ∧ i = .int .i64 k ∧ wr.ownsRow w.heap.size 72 2 v k (versC (l.take k)) ∧ Below w.heap.size w wr) (fun _ i _ => l.length - (intOf i).toNat)
  case atStart => exact ⟨0, Nat.zero_le _, rfl, World.ownsRow_nil _ _ _ _, Below.refl _ _⟩
  case round =>
    obtain ⟨k, hk, rfl, hown, hbel⟩ := hrel
    by_cases hlt : k < l.length
    · obtain ⟨ad, rfl, hadb, e0, e1⟩ := vers_at (hr.below hbel) hlt
      have htk : l.take (k + 1) = l.take k ++ [l[k]] := by rw [List.take_succ_eq_append_getElem hlt]
      have HTK := Lib.hid htk
      clear htk
      generalize hx : l[k] = x at e0 e1 HTK
      have HX := Lib.hid hx
      clear hx hr
      go_wp2_with ((at_builtin; refine wpList_append_own_wide _ rfl (.tmp 11) (.tmp 16) 46 rfl w.heap.size 72 i0 _ 2 24 Tryd.underlying46 hi0 hz0 hz1 hz2 rfl (by decide) _ k (versC (l.take k)) rfl (hown.alloc _) ⟨wr.heap.size, 0, none⟩ 1 1 [.int .i64 x.n, .string x.v] rfl rfl ?_ ?_ ?_ ?_ ?_ ?_); exact new_cells wr 72 [.int .i64 x.n, .string x.v]; (simp [Value.oneCell']); (unfold maxLen; omega); (omega); (have := hbel.size; simp; omega); intro v1 w1 hown1 hg1 _)
      go_roundw
      case rel =>
        refine ⟨k + 1, by omega, by go_num, ?_, (hbel.alloc hbel.size _).grown hg1 (by have := hbel.size; simp; omega) (fun b hb => own_base hown hb)⟩
        rw [HTK.out, versC, flat_snoc]
        exact hown1
      case measure => simp [intOf]; omega
    · obtain rfl : k = l.length := by omega
      rw [List.take_length] at hown
      go_wp2
      go_ret
      exact ⟨_, rfl, hown, hbel⟩

/-- A row of the document's. -/
def RowR (w : World) (v : Value) (l : List VerS) : Prop := w.ownsRow 0 72 2 v l.length (versC l)

set_option maxRecDepth 100000 in
set_option maxHeartbeats 4000000 in
theorem rput_calls (l : List VerS) (hu : UpV l) (sv : Value) (n : Int) (v : ByteArray) (w : World) (h : RowR w sv l) (hlen : l.length < 9382499223000) :
    Calls Tryd.prog 18 #[sv, .int .i64 n, .string v] w fun e w' => ∃ v', e = .returned (.tuple #[v', .int .i64 (putE l n)]) ∧ RowR w' v' (putL l ⟨n, v⟩) ∧ Below w.heap.size w w' := by
  obtain ⟨i0, hi0, hz0, hz1, hz2⟩ := info_parts infoVersR
  obtain ⟨A, c, rfl⟩ := own_slice h
  have hr := Reads.of_own h
  have H := Lib.hid h
  clear h
  go_enter Tryd.func18, Tryd.ntmps18
  by_cases hn : n < 0
  · have hm : mayPut l n = false := by simp [mayPut]; omega
    have e1 : putE l n = 1 := by simp [putE, hm]
    have e2 : putL l ⟨n, v⟩ = l := by simp [putL, hm]
    rw [e1, e2]
    clear e1 e2 hm hr
    go_wp2
    go_ret2
    exact ⟨_, rfl, H.out, Below.refl _ _⟩
  · have hn0 : 0 ≤ n := by omega
    clear hn
    go_wp2_with (fail)
    go_loopw [8] (fun i wr => ∃ k : Nat, k ≤ l.length ∧ i = .int .i64 k ∧ (∀ j (hj : j < l.length), j < k → l[j].n < n) ∧ w = wr) (fun i _ => l.length - (intOf i).toNat)
    case atStart => exact ⟨0, Nat.zero_le _, rfl, fun j _ h => absurd h (by omega), rfl⟩
    case round =>
      obtain ⟨k, hk, rfl, hall, rfl⟩ := hrel
      have HA := Lib.hid hall
      clear hall
      by_cases hlt : k < l.length
      · have hkl : (k : Int) < l.length := by omega
        obtain ⟨ad, rfl, hadb, f0, f1⟩ := vers_at hr hlt
        by_cases hx : n ≤ l[k].n
        · have hm : mayPut l n = false := by
            have := hu.le_last (x := l[k]) (by simp)
            simp [mayPut]; omega
          have e1 : putE l n = 1 := by simp [putE, hm]
          have e2 : putL l ⟨n, v⟩ = l := by simp [putL, hm]
          have E1 := Lib.hid e1
          have E2 := Lib.hid e2
          generalize l[k].n = y at hx f0
          clear e1 e2 hm hr f1
          go_wp2
          go_ret2
          exact ⟨_, by rw [E1.out]; rfl, by rw [E2.out]; exact H.out, Below.refl _ _⟩
        · have hx2 : l[k].n < n := by omega
          have HX := Lib.hid hx2
          generalize l[k].n = y at hx2 f0
          have hk2 := Lib.hid hr
          clear hx hr f1
          go_wp2_with (fail)
          go_roundw
          case rel =>
            refine ⟨k + 1, by omega, by go_num, fun j hj hjk => ?_, by trivial⟩
            rcases Nat.lt_or_ge j k with h1 | h1
            · exact HA.out j hj h1
            · obtain rfl : j = k := by omega
              exact HX.out
          case measure => simp [intOf]; omega
      · obtain rfl : k = l.length := by omega
        have hm : mayPut l n = true := by
          have hl : lastNo l < n := by
            by_cases h0 : 0 < l.length
            · rw [lastNo_pos h0]; exact HA.out _ (by omega) (by omega)
            · have : l = [] := List.eq_nil_of_length_eq_zero (by omega)
              subst this
              simp [lastNo]; omega
          simp [mayPut]; omega
        have E1 := Lib.hid (by simp [putE, hm] : putE l n = 0)
        have E2 := Lib.hid (by simp [putL, hm] : putL l ⟨n, v⟩ = l ++ [⟨n, v⟩])
        have HR := Lib.hid hr
        clear hm hr
        go_wp2_with (first
          | (go_at_call 35; refine (copyV_calls l A c w HR.out (by omega)).mono ?_; rintro e w1 ⟨v0, rfl, hown, hb1⟩)
          | (at_builtin; refine wpList_append_own_wide _ rfl (.tmp 29) (.tmp 33) 46 rfl w.heap.size 72 i0 _ 2 24 Tryd.underlying46 hi0 hz0 hz1 hz2 rfl (by decide) _ l.length (versC l) rfl (hown.alloc _) ⟨w1.heap.size, 0, none⟩ 1 1 [.int .i64 n, .string v] rfl rfl ?_ ?_ ?_ ?_ ?_ ?_; exact new_cells w1 72 [.int .i64 n, .string v]; (simp [Value.oneCell']); (unfold maxLen; omega); (omega); (have := hb1.size; simp; omega); intro v1 w2 hown2 hg2 _))
        go_ret2
        refine ⟨_, by rw [E1.out]; rfl, ?_, (hb1.alloc hb1.size _).grown hg2 (by have := hb1.size; simp; omega) (fun b hb => own_base hown hb)⟩
        have e1 : (l ++ [(⟨n, v⟩ : VerS)]).length = l.length + 1 := by simp
        have e2 : versC (l ++ [(⟨n, v⟩ : VerS)]) = versC l ++ [.int .i64 n, .string v] := by simp [versC, VerS.cs]
        rw [E2.out]
        unfold RowR
        rw [e1, e2]
        exact own_base0 hown2
end Go.Proofs.YtmljiegeingpeaaDoor
