/- The document's versions (custodyref10): Counts, Copy, Put, At. -/
import Derived.Test.YtflkddllofeiaaaGreatDoorWide
import Derived.Test.YtflkddllofeiaaaGreatDoorChain3
import Derived.BigQuiet
namespace Go.Proofs.YtflkddllofeiaaaGreatDoor
set_option linter.unusedSimpArgs false
set_option linter.unusedVariables false
open Go.RowKit

theorem infoVersR : (Tryz.prog.info? 153).map (fun i => (i.zero, i.size, i.bytes)) = some (some (.agg #[.int .i64 0, .string ⟨#[]⟩]), 2, 24) := by kernel_rfl

set_option maxRecDepth 100000 in
set_option maxHeartbeats 4000000 in
theorem counts_calls (l : List VerS) (hu : UpV l) (A : Option Addr) (c : Nat) (n : Int) (w : World) (hr : Reads w w.heap.size 2 A l.length (versC l)) (hlen : l.length ≤ 9382499223000) :
    Calls Tryz.prog 100 #[.slice A l.length c, .int .i64 n] w fun e w' => e = .returned (.int .i64 ((leN l n : Int) - 1)) ∧ Below w.heap.size w w' := by
  have hle := leN_le l n
  go_enter Tryz.func100, Tryz.ntmps100
  go_wp2_with (fail)
  go_loopw [5, 6] (fun b i wr => ∃ k : Nat, k ≤ l.length ∧ i = .int .i64 k ∧ b = .int .i64 ((min k (leN l n) : Nat) - 1 : Int) ∧ Below w.heap.size w wr) (fun _ i _ => l.length - (intOf i).toNat)
  case atStart => exact ⟨0, Nat.zero_le _, rfl, by simp, Below.refl _ _⟩
  case round =>
    obtain ⟨k, hk, rfl, rfl, B⟩ := hrel
    by_cases hlt : k < l.length
    · have hkl : (k : Int) < l.length := by omega
      obtain ⟨ad, rfl, hadb, e0, e1⟩ := vers_at (hr.below B) hlt
      have hiff := leN_lt hu (n := n) hlt
      by_cases hkn : k < leN l n
      · have hxn : l[k].n ≤ n := hiff.1 hkn
        by_cases hk0 : k = 0
        · have hmin : ((min k (leN l n) : Nat) - 1 : Int) = -1 := by omega
          rw [hmin]
          generalize l[k].n = y at hxn e0
          have hd1 : decide (y ≤ n) = true := by simpa using hxn
          have HK0 := Lib.hid hk0
          have HK := Lib.hid hkn
          have HR := Lib.hid hr
          clear hmin hiff e1 hkn hle hr hk0
          go_wp2_with (fail)
          go_quiet (fail)
          go_wp2
          exact ⟨⟨k + 1, by omega, by go_num, congrArg _ (by have := HK.out; omega), below_drewN B nq⟩, by simp [intOf]; omega⟩
        · obtain ⟨m, rfl⟩ : ∃ m, k = m + 1 := ⟨k - 1, by omega⟩
          have hmin : ((min (m + 1) (leN l n) : Nat) - 1 : Int) = m := by omega
          rw [hmin]
          obtain ⟨ad2, had2, hz1, f0, hz2⟩ := vers_at (hr.below B) (show m < l.length by omega)
          cases had2
          have hup := hu.lt (i := m) (j := m + 1) (by omega) hlt
          generalize l[m].n = z at hup f0
          generalize l[m + 1].n = y at hxn e0 hup
          have HK := Lib.hid hkn
          have HR := Lib.hid hr
          have hm0 : (0 : Int) ≤ m := by omega
          have hd1 : decide (y ≤ n) = true := by simpa using hxn
          have hd2 : decide (z < y) = true := by simpa using hup
          have hd3 : decide ((m : Int) < 0) = false := by simp
          clear hz1 hz2 hmin hiff e1 hkn hle hr
          go_wp2_with (fail)
          go_quiet (fail)
          go_wp2
          exact ⟨⟨m + 1 + 1, by omega, by go_num, congrArg _ (by have := HK.out; omega), below_drewN B nq⟩, by simp [intOf]; omega⟩
      · have hxn : n < l[k].n := by
          have := fun h => hkn (hiff.2 h)
          omega
        have hmin : min k (leN l n) = leN l n := by omega
        have hmin2 : min (k + 1) (leN l n) = leN l n := by omega
        rw [hmin]
        generalize l[k].n = y at hxn e0
        have hd1 : decide (y ≤ n) = false := by simp; omega
        have HM := Lib.hid hmin2
        have HR := Lib.hid hr
        clear hmin hmin2 hiff e1 hkn hle hr
        go_wp2_with (fail)
        go_quiet (fail)
        go_wp2
        exact ⟨⟨k + 1, by omega, by go_num, by rw [HM.out], below_drewN B nq⟩, by simp [intOf]; omega⟩
    · obtain rfl : k = l.length := by omega
      have hmin : min l.length (leN l n) = leN l n := by omega
      rw [hmin]
      go_wp2
      go_ret
      exact ⟨rfl, B⟩

set_option maxRecDepth 100000 in
set_option maxHeartbeats 4000000 in
theorem copyV_calls (l : List VerS) (A : Option Addr) (c : Nat) (w : World) (hr : Reads w w.heap.size 2 A l.length (versC l)) (hlen : l.length ≤ 9382499223000) :
    Calls Tryz.prog 98 #[.slice A l.length c] w fun e w' => ∃ v, e = .returned v ∧ w'.ownsRow w.heap.size 153 2 v l.length (versC l) ∧ Below w.heap.size w w' := by
  obtain ⟨i0, hi0, hz0, hz1, hz2⟩ := info_parts infoVersR
  go_enter Tryz.func98, Tryz.ntmps98
  go_wp2_with (fail)
  go_loopw [3, 4] (fun v i wr => ∃ k : Nat, k ≤ l.length ∧ i = .int .i64 k ∧ wr.ownsRow w.heap.size 153 2 v k (versC (l.take k)) ∧ Below w.heap.size w wr) (fun _ i _ => l.length - (intOf i).toNat)
  case atStart => exact ⟨0, Nat.zero_le _, rfl, World.ownsRow_nil _ _ _ _, Below.refl _ _⟩
  case round =>
    obtain ⟨k, hk, rfl, hown, hbel⟩ := hrel
    by_cases hlt : k < l.length
    · obtain ⟨ad, rfl, hadb, e0, e1⟩ := vers_at (hr.below hbel) hlt
      have htk : l.take (k + 1) = l.take k ++ [l[k]] := by rw [List.take_succ_eq_append_getElem hlt]
      have HTK := Lib.hid htk
      clear htk
      generalize hx : l[k] = x at e0 e1 HTK
      have HX := Lib.hid hx
      clear hx hr
      go_wp2_with ((at_builtin; refine wpList_append_own_wide _ rfl (.tmp 11) (.tmp 16) 75 rfl w.heap.size 153 i0 _ 2 24 Tryz.underlying75 hi0 hz0 hz1 hz2 rfl (by decide) _ k (versC (l.take k)) rfl (hown.alloc _) ⟨wr.heap.size, 0, none⟩ 1 1 [.int .i64 x.n, .string x.v] rfl rfl ?_ ?_ ?_ ?_ ?_ ?_); exact new_cells wr 153 [.int .i64 x.n, .string x.v]; (simp [Value.oneCell']); (unfold maxLen; omega); (omega); (have := hbel.size; simp; omega); intro v1 w1 hown1 hg1 _)
      go_roundw
      case rel =>
        refine ⟨k + 1, by omega, by go_num, ?_, (hbel.alloc hbel.size _).grown hg1 (by have := hbel.size; simp; omega) (fun b hb => own_base hown hb)⟩
        rw [HTK.out, versC, flat_snoc]
        exact hown1
      case measure => simp [intOf]; omega
    · obtain rfl : k = l.length := by omega
      rw [List.take_length] at hown
      go_wp2
      go_ret
      exact ⟨_, rfl, hown, hbel⟩

/-- A row of the document's. -/
def RowR (w : World) (v : Value) (l : List VerS) : Prop := w.ownsRow 0 153 2 v l.length (versC l)

set_option maxRecDepth 100000 in
set_option maxHeartbeats 4000000 in
theorem rput_calls (l : List VerS) (hu : UpV l) (sv : Value) (n : Int) (v : ByteArray) (w : World) (h : RowR w sv l) (hlen : l.length < 9382499223000) :
    Calls Tryz.prog 72 #[sv, .int .i64 n, .string v] w fun e w' => ∃ v', e = .returned (.tuple #[v', .int .i64 (putE l n)]) ∧ RowR w' v' (putL l ⟨n, v⟩) ∧ Below w.heap.size w w' := by
  obtain ⟨i0, hi0, hz0, hz1, hz2⟩ := info_parts infoVersR
  obtain ⟨A, c, rfl⟩ := own_slice h
  have hr := Reads.of_own h
  have H := Lib.hid h
  clear h
  go_enter Tryz.func72, Tryz.ntmps72
  by_cases hn : n < 0
  · have hm : mayPut l n = false := by simp [mayPut]; omega
    have e1 : putE l n = 1 := by simp [putE, hm]
    have e2 : putL l ⟨n, v⟩ = l := by simp [putL, hm]
    rw [e1, e2]
    clear e1 e2 hm hr
    go_wp2
    go_ret2
    exact ⟨_, rfl, H.out, Below.refl _ _⟩
  · have hn0 : 0 ≤ n := by omega
    clear hn
    go_wp2_with (fail)
    go_loopw [8] (fun i wr => ∃ k : Nat, k ≤ l.length ∧ i = .int .i64 k ∧ (∀ j (hj : j < l.length), j < k → l[j].n < n) ∧ w = wr) (fun i _ => l.length - (intOf i).toNat)
    case atStart => exact ⟨0, Nat.zero_le _, rfl, fun j _ h => absurd h (by omega), rfl⟩
    case round =>
      obtain ⟨k, hk, rfl, hall, rfl⟩ := hrel
      have HA := Lib.hid hall
      clear hall
      by_cases hlt : k < l.length
      · have hkl : (k : Int) < l.length := by omega
        obtain ⟨ad, rfl, hadb, f0, f1⟩ := vers_at hr hlt
        by_cases hx : n ≤ l[k].n
        · have hm : mayPut l n = false := by
            have := hu.le_last (x := l[k]) (by simp)
            simp [mayPut]; omega
          have e1 : putE l n = 1 := by simp [putE, hm]
          have e2 : putL l ⟨n, v⟩ = l := by simp [putL, hm]
          have E1 := Lib.hid e1
          have E2 := Lib.hid e2
          generalize l[k].n = y at hx f0
          clear e1 e2 hm hr f1
          go_wp2
          go_ret2
          exact ⟨_, by rw [E1.out]; rfl, by rw [E2.out]; exact H.out, Below.refl _ _⟩
        · have hx2 : l[k].n < n := by omega
          have HX := Lib.hid hx2
          generalize l[k].n = y at hx2 f0
          have hk2 := Lib.hid hr
          clear hx hr f1
          go_wp2_with (fail)
          go_roundw
          case rel =>
            refine ⟨k + 1, by omega, by go_num, fun j hj hjk => ?_, by trivial⟩
            rcases Nat.lt_or_ge j k with h1 | h1
            · exact HA.out j hj h1
            · obtain rfl : j = k := by omega
              exact HX.out
          case measure => simp [intOf]; omega
      · obtain rfl : k = l.length := by omega
        have hm : mayPut l n = true := by
          have hl : lastNo l < n := by
            by_cases h0 : 0 < l.length
            · rw [lastNo_pos h0]; exact HA.out _ (by omega) (by omega)
            · have : l = [] := List.eq_nil_of_length_eq_zero (by omega)
              subst this
              simp [lastNo]; omega
          simp [mayPut]; omega
        have E1 := Lib.hid (by simp [putE, hm] : putE l n = 0)
        have E2 := Lib.hid (by simp [putL, hm] : putL l ⟨n, v⟩ = l ++ [⟨n, v⟩])
        have HR := Lib.hid hr
        clear hm hr
        go_wp2_with (first
          | (go_at_call 98; refine (copyV_calls l A c w HR.out (by omega)).mono ?_; rintro e w1 ⟨v0, rfl, hown, hb1⟩)
          | (at_builtin; refine wpList_append_own_wide _ rfl (.tmp 29) (.tmp 33) 75 rfl w.heap.size 153 i0 _ 2 24 Tryz.underlying75 hi0 hz0 hz1 hz2 rfl (by decide) _ l.length (versC l) rfl (hown.alloc _) ⟨w1.heap.size, 0, none⟩ 1 1 [.int .i64 n, .string v] rfl rfl ?_ ?_ ?_ ?_ ?_ ?_; exact new_cells w1 153 [.int .i64 n, .string v]; (simp [Value.oneCell']); (unfold maxLen; omega); (omega); (have := hb1.size; simp; omega); intro v1 w2 hown2 hg2 _))
        go_ret2
        refine ⟨_, by rw [E1.out]; rfl, ?_, (hb1.alloc hb1.size _).grown hg2 (by have := hb1.size; simp; omega) (fun b hb => own_base hown hb)⟩
        have e1 : (l ++ [(⟨n, v⟩ : VerS)]).length = l.length + 1 := by simp
        have e2 : versC (l ++ [(⟨n, v⟩ : VerS)]) = versC l ++ [.int .i64 n, .string v] := by simp [versC, VerS.cs]
        rw [E2.out]
        unfold RowR
        rw [e1, e2]
        exact own_base0 hown2
end Go.Proofs.YtflkddllofeiaaaGreatDoor

/- The document's versions (custodyref10): At, Last, Prune. -/
namespace Go.Proofs.YtflkddllofeiaaaGreatDoor
open Go.RowKit

def MaxV (l : List VerS) : Prop := ∀ x ∈ l, x.n ≤ 9223372036854775807
theorem leN_max {l : List VerS} (h : MaxV l) : leN l 9223372036854775807 = l.length := by
  unfold leN
  rw [List.filter_eq_self.2 (fun x hx => by simpa using h x hx)]

set_option maxRecDepth 100000 in
set_option maxHeartbeats 2000000 in
theorem rat_calls (l : List VerS) (hu : UpV l) (A : Option Addr) (c : Nat) (n : Int) (w : World) (hr : Reads w w.heap.size 2 A l.length (versC l)) (hlen : l.length ≤ 9382499223000) :
    Calls Tryz.prog 75 #[.slice A l.length c, .int .i64 n] w fun e w' => e = .returned (.tuple #[.string (atV l n), .bool (decide (0 < leN l n))]) ∧ Below w.heap.size w w' := by
  have hle := leN_le l n
  have HR := Lib.hid hr
  by_cases hm : leN l n = 0
  · have ha : atV l n = ByteArray.empty := if_pos hm
    have hd : decide (0 < leN l n) = false := by simp [hm]
    rw [ha, hd]
    have HM := Lib.hid hm
    clear ha hd hr hle hm
    go_enter Tryz.func75, Tryz.ntmps75
    go_wp2_with (go_at_call 100; refine (counts_calls l hu A c n w HR.out hlen).mono ?_; rintro e w1 ⟨rfl, hb1⟩; rw [HM.out])
    go_ret2
    exact ⟨rfl, hb1⟩
  · obtain ⟨m, hm2⟩ : ∃ m, leN l n = m + 1 := ⟨leN l n - 1, by omega⟩
    have hml : m < l.length := by omega
    have ha : atV l n = l[m].v := by unfold atV; rw [if_neg hm, show leN l n - 1 = m by omega, List.getElem?_eq_getElem hml]; rfl
    have hd : decide (0 < leN l n) = true := by simp; omega
    rw [ha, hd]
    obtain ⟨ad, rfl, hadb, e0, e1⟩ := vers_at hr hml
    have HM := Lib.hid (by omega : ((leN l n : Nat) : Int) - 1 = m)
    have hm0 : (0 : Int) ≤ m := by omega
    generalize l[m] = x at e0 e1 ⊢
    clear ha hd hr hle hm hm2
    go_enter Tryz.func75, Tryz.ntmps75
    go_wp2_with (go_at_call 100; refine (counts_calls l hu (some ad) c n w HR.out hlen).mono ?_; rintro e w1 ⟨rfl, hb1⟩; rw [HM.out]; have f0 := cell_below hb1 e0; have f1 := cell_below hb1 e1)
    go_ret2
    exact ⟨rfl, hb1⟩

/-- The newest version's text. -/
def lastV (l : List VerS) : ByteArray := (l.getLast?.map (·.v)).getD ByteArray.empty
theorem lastV_pos {l : List VerS} (h : 0 < l.length) : lastV l = l[l.length - 1].v := by
  unfold lastV
  rw [List.getLast?_eq_getElem?, List.getElem?_eq_getElem (by omega)]
  rfl
def lastM (l : List VerS) : Int := if l.length = 0 then 0 else lastNo l

set_option maxRecDepth 100000 in
set_option maxHeartbeats 2000000 in
theorem rlast_calls (l : List VerS) (hu : UpV l) (hx : MaxV l) (A : Option Addr) (c : Nat) (w : World) (hr : Reads w w.heap.size 2 A l.length (versC l)) (hlen : l.length ≤ 9382499223000) :
    Calls Tryz.prog 76 #[.slice A l.length c] w fun e w' => e = .returned (.tuple #[.string (lastV l), .int .i64 (lastM l), .bool (decide (0 < l.length))]) ∧ Below w.heap.size w w' := by
  have HR := Lib.hid hr
  have HMX := Lib.hid (leN_max hx)
  by_cases hm : l.length = 0
  · have ha : lastV l = ByteArray.empty := by have : l = [] := List.eq_nil_of_length_eq_zero hm; subst this; rfl
    have hb : lastM l = 0 := if_pos hm
    have hd : decide (0 < l.length) = false := by simp [hm]
    rw [ha, hb, hd]
    have HM := Lib.hid hm
    clear ha hb hd hr hm hx
    go_enter Tryz.func76, Tryz.ntmps76
    go_wp2_with (go_at_call 100; refine (counts_calls l hu A c 9223372036854775807 w HR.out hlen).mono ?_; rintro e w1 ⟨rfl, hb1⟩; rw [HMX.out, HM.out])
    go_ret3
    exact ⟨rfl, hb1⟩
  · obtain ⟨m, hm2⟩ : ∃ m, l.length = m + 1 := ⟨l.length - 1, by omega⟩
    have hml : m < l.length := by omega
    have ha : lastV l = l[m].v := by rw [lastV_pos (by omega)]; congr 2; omega
    have hb : lastM l = l[m].n := by unfold lastM; rw [if_neg hm, lastNo_pos (by omega)]; congr 2; omega
    have hd : decide (0 < l.length) = true := by simp; omega
    rw [ha, hb, hd]
    obtain ⟨ad, rfl, hadb, e0, e1⟩ := vers_at hr hml
    have HM := Lib.hid (by omega : ((l.length : Nat) : Int) - 1 = m)
    have hm0 : (0 : Int) ≤ m := by omega
    generalize l[m] = x at e0 e1 ⊢
    clear ha hb hd hr hm hm2 hx
    go_enter Tryz.func76, Tryz.ntmps76
    go_wp2_with (go_at_call 100; refine (counts_calls l hu (some ad) c 9223372036854775807 w HR.out hlen).mono ?_; rintro e w1 ⟨rfl, hb1⟩; rw [HMX.out, HM.out]; have f0 := cell_below hb1 e0; have f1 := cell_below hb1 e1)
    go_quiet (fail)
    go_wp2
    go_ret3
    exact ⟨rfl, below_drewN hb1 _⟩

set_option maxRecDepth 100000 in
set_option maxHeartbeats 4000000 in
theorem rprune_calls (l : List VerS) (hu : UpV l) (sv : Value) (n : Int) (w : World) (h : RowR w sv l) (hlen : l.length ≤ 9382499223000) :
    Calls Tryz.prog 77 #[sv, .int .i64 n] w fun e w' => ∃ v', e = .returned (.tuple #[v', .int .i64 (pruneN l n)]) ∧ RowR w' v' (pruneL l n) ∧ Below w.heap.size w w' := by
  obtain ⟨i0, hi0, hz0, hz1, hz2⟩ := info_parts infoVersR
  obtain ⟨A, c, rfl⟩ := own_slice h
  have hr := Reads.of_own h
  have H := Lib.hid h
  have HR := Lib.hid hr
  have hle := leN_le l n
  clear h
  by_cases hm : leN l n = 0
  · have e1 : pruneN l n = 0 := by unfold pruneN; rw [if_pos (by omega)]
    have e2 : pruneL l n = l := by unfold pruneL; rw [if_pos (by omega)]
    rw [e1, e2]
    have HM := Lib.hid hm
    clear e1 e2 hr hle hm
    go_enter Tryz.func77, Tryz.ntmps77
    go_wp2_with (go_at_call 100; refine (counts_calls l hu A c n w HR.out hlen).mono ?_; rintro e w1 ⟨rfl, hb1⟩; rw [HM.out])
    go_ret2
    exact ⟨_, rfl, own_below H.out hb1, hb1⟩
  · obtain ⟨m, hm2⟩ : ∃ m, leN l n = m + 1 := ⟨leN l n - 1, by omega⟩
    have hml : m < l.length := by omega
    have e1 : pruneN l n = m := by unfold pruneN; split <;> omega
    have e2 : pruneL l n = l.drop m := by
      unfold pruneL
      split
      · obtain rfl : m = 0 := by omega
        simp
      · rw [show leN l n - 1 = m by omega]
    rw [e1, e2]
    have HM := Lib.hid (by omega : ((leN l n : Nat) : Int) - 1 = m)
    have hm0 : (0 : Int) ≤ m := by omega
    clear e1 e2 hle hm hm2
    go_enter Tryz.func77, Tryz.ntmps77
    go_wp2_with (go_at_call 100; refine (counts_calls l hu A c n w HR.out hlen).mono ?_; rintro e w1 ⟨rfl, hb1⟩; rw [HM.out])
    go_loopw [7, 8] (fun v i wr => ∃ k : Nat, k ≤ l.length ∧ i = .int .i64 k ∧ wr.ownsRow w.heap.size 153 2 v (k - m) (versC ((l.take k).drop m)) ∧ Below w.heap.size w wr) (fun _ i _ => l.length - (intOf i).toNat)
    case atStart => exact ⟨0, Nat.zero_le _, rfl, by simpa [versC] using World.ownsRow_nil _ _ _ _, hb1⟩
    case round =>
      clear hb1
      obtain ⟨k, hk, rfl, hown, B⟩ := hrel
      by_cases hlt : k < l.length
      · have hkl : (k : Int) < l.length := by omega
        obtain ⟨ad, rfl, hadb, f0, f1⟩ := vers_at (hr.below B) hlt
        obtain ⟨ad2, had2, hz1, g0, hz2⟩ := vers_at (hr.below B) hml
        cases had2
        clear hz1 hz2
        by_cases hkm : m ≤ k
        · have hge := hu.le hkm hlt
          have htk : (l.take (k + 1)).drop m = (l.take k).drop m ++ [l[k]] := by
            rw [List.take_succ_eq_append_getElem hlt, List.drop_append_of_le_length (by simp; omega)]
          have HTK := Lib.hid htk
          generalize hx : l[k] = x at f0 f1 hge HTK
          generalize l[m].n = y at g0 hge
          have hd : decide (y ≤ x.n) = true := by simpa using hge
          have HO := Lib.hid hown
          have hk1 : k + 1 - m = k - m + 1 := by omega
          have HK1 := Lib.hid hk1
          clear hr htk hx hown hk1
          go_wp2_with (fail)
          go_quiet (fail)
          obtain ⟨W1, hW1⟩ : ∃ W, wr.drewN nq = W := ⟨_, rfl⟩
          have BW : Below w.heap.size w W1 := hW1 ▸ below_drewN B nq
          have HOW := Lib.hid (hW1 ▸ (show (wr.drewN nq).ownsRow w.heap.size 153 2 _ (k - m) (versC ((l.take k).drop m)) from HO.out))
          replace f0 : W1.cell? (ad.add (k * 2)) = some (.int .i64 x.n) := hW1 ▸ (show (wr.drewN nq).cell? _ = _ from f0)
          replace f1 : W1.cell? ⟨(ad.add (k * 2)).block, (ad.add (k * 2)).off + 1, none⟩ = some (.string x.v) := hW1 ▸ (show (wr.drewN nq).cell? _ = _ from f1)
          rw [hW1]
          clear hW1 HO g0 hge hd B
          go_wp2_with (at_builtin; refine wpList_append_own_wide _ rfl (.tmp 32) (.tmp 37) 75 rfl w.heap.size 153 i0 _ 2 24 Tryz.underlying75 hi0 hz0 hz1 hz2 rfl (by decide) _ (k - m) (versC ((l.take k).drop m)) rfl (HOW.out.alloc _) ⟨W1.heap.size, 0, none⟩ 1 1 [.int .i64 x.n, .string x.v] rfl rfl ?_ ?_ ?_ ?_ ?_ ?_; exact new_cells W1 153 [.int .i64 x.n, .string x.v]; (simp [Value.oneCell']); (unfold maxLen; omega); (omega); (have := BW.size; simp; omega); intro v1 w2 hown2 hg2 _)
          go_roundw
          case rel =>
            refine ⟨k + 1, by omega, by go_num, ?_, (BW.alloc BW.size _).grown hg2 (by have := BW.size; simp; omega) (fun b hb => own_base HOW.out hb)⟩
            rw [HTK.out, HK1.out, versC, flat_snoc]
            exact hown2
          case measure => simp [intOf]; omega
        · have hge := hu.lt (i := k) (j := m) (by omega) hml
          have htk : (l.take (k + 1)).drop m = (l.take k).drop m := by
            rw [List.drop_of_length_le (by simp; omega), List.drop_of_length_le (by simp; omega)]
          have HTK := Lib.hid htk
          generalize l[k].n = x at f0 hge
          generalize l[m].n = y at g0 hge
          have hd : decide (y ≤ x) = false := by simp; omega
          have HO := Lib.hid hown
          have HK1 := Lib.hid (by omega : k + 1 - m = k - m)
          clear hr htk hown f1
          go_wp2_with (fail)
          go_quiet (fail)
          go_wp2_with (fail)
          go_roundw
          case rel =>
            refine ⟨k + 1, by omega, by go_num, ?_, below_drewN B nq⟩
            rw [HTK.out, HK1.out]
            exact HO.out
          case measure => simp [intOf]; omega
      · obtain rfl : k = l.length := by omega
        rw [List.take_length] at hown
        have hd : (l.drop m).length = l.length - m := by simp
        obtain ⟨A2, c2, rfl⟩ := own_slice hown
        have HO := Lib.hid hown
        have HD := Lib.hid hd
        have hs : ((l.length : Nat) : Int) - ((l.length - m : Nat) : Int) = m := by omega
        clear hown hd hr
        go_wp2
        go_ret2
        refine ⟨_, rfl, ?_, B⟩
        unfold RowR
        rw [HD.out]
        exact own_base0 HO.out
end Go.Proofs.YtflkddllofeiaaaGreatDoor
