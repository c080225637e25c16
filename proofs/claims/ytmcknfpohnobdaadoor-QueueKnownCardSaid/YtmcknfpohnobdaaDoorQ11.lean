/- Queue: Items, DeleteFunc at entries by contracts. -/
import Derived.Test.YtmcknfpohnobdaaDoorQ8
import Derived.Lib.SliceRun
namespace Go.Proofs.YtmcknfpohnobdaaDoor
set_option linter.unusedSimpArgs false
set_option linter.unusedVariables false
open Go.RowKit Go.MapKept Go.ChangeMaps Go.Maps

theorem itemsQ_calls {p bi bw : Nat} {room turns : Int} {lv : Value} {L : List Ent} {W : List (Key × Nat)} (w : World) (h : QAt w p room turns lv bi bw L W) (hlen : L.length ≤ 5864062014805) :
    Calls Tryd.prog 8 #[eP p] w
      fun e w' => ∃ v, e = .returned v ∧ w'.ownsRow w.heap.size 3 1 v L.length (intsC (L.map (·.id))) ∧ Below w.heap.size w w' := by
  have hs := such_calls 27 (fun _ => true) w h hlen (enters_of Tryd.func27 (by kernel_rfl) rfl) (fun w' x hx => item_calls w' _)
  rw [List.filter_eq_self.2 (fun _ _ => rfl)] at hs
  unfold eP at hs ⊢
  have HS := Lib.hid hs
  clear hs
  go_enter Tryd.func8, Tryd.ntmps8
  go_wp2_with (fail)
  refine HS.out.mono ?_
  rintro e w1 ⟨v, rfl, hown, hb⟩
  have HO := Lib.hid hown
  have HB := Lib.hid hb
  clear hown hb
  go_wp2
  go_ret
  exact ⟨_, rfl, HO.out, HB.out⟩

theorem eqlEnt (w : World) {a b : Nat} (ha : IsEnt w a) (hb : IsEnt w b) : (binOp .eql 63 (.pointer (some ⟨a, 0, none⟩)) (.pointer (some ⟨b, 0, none⟩))).run Tryd.prog w = .ok (.bool (decide (a = b))) w := by
  have h := eqEnt w ha hb
  unfold eP at h
  unfold binOp
  simp [h, Result.andThen, run_underlying Tryd.underlying63]
/-- The closure in Remove: is it this one? -/
theorem same_calls (w : World) (bx g x : Nat) (hx : w.cell? ⟨bx, 0, none⟩ = some (.pointer (some ⟨g, 0, none⟩))) (hg : IsEnt w g) (he : IsEnt w x) :
    Calls Tryd.prog 46 #[.pointer (some ⟨x, 0, none⟩), .pointer (some ⟨bx, 0, none⟩)] w fun e w' => e = .returned (.bool (decide (x = g))) ∧ w' = w := by
  have heq := eqlEnt w he hg
  go_enter Tryd.func46, Tryd.ntmps46
  go_wp2
  go_ret
  exact ⟨rfl, rfl⟩

theorem own_set1 {w : World} {base g c n : Nat} {e : TypeId} {xs : List Value} (h : w.ownsRow base e 1 (.slice (some ⟨g, 0, none⟩) n c) n xs) {k : Nat} (hk : k < n) (u : Value) : (w.setCell ⟨g, k, none⟩ u).ownsRow base e 1 (.slice (some ⟨g, 0, none⟩) n c) n (xs.set k u) := by
  obtain ⟨hl, h | ⟨g', cap, cur, hv, hb, hh, hn, hc, hs, ht⟩⟩ := h
  · exact absurd h.1 (by simp)
  · injection hv with h1 h2 h3
    injection h1 with h1
    injection h1 with h1
    subst h1 h3
    refine ⟨by simpa using hl, .inr ⟨g, c, cur.setIfInBounds k u, rfl, hb, ?_, hn, hc, by simpa using hs, ?_⟩⟩
    · exact (show Blk w g e cur from hh).set_ k u
    · rw [Array.toList_setIfInBounds, List.take_set, ht]
theorem own_cut1 {w : World} {base g c n m : Nat} {e : TypeId} {xs : List Value} (h : w.ownsRow base e 1 (.slice (some ⟨g, 0, none⟩) n c) n xs) (hm : m ≤ n) : w.ownsRow base e 1 (.slice (some ⟨g, 0, none⟩) m c) m (xs.take m) := by
  obtain ⟨hl, h | ⟨g', cap, cur, hv, hb, hh, hn, hc, hs, ht⟩⟩ := h
  · exact absurd h.1 (by simp)
  · injection hv with h1 h2 h3
    injection h1 with h1
    injection h1 with h1
    subst h1 h3
    refine ⟨by simp; omega, .inr ⟨g, c, cur, rfl, hb, hh, by omega, hc, hs, ?_⟩⟩
    rw [← ht, Nat.mul_one, Nat.mul_one, List.take_take, Nat.min_eq_left hm]

set_option maxRecDepth 100000 in
set_option maxHeartbeats 2000000 in
theorem indexQ_calls (bs : List Nat) (A : Option Addr) (c bx g j : Nat) (w : World) (hr : Reads w w.heap.size 1 A bs.length (bs.map eP)) (hb : ∀ b ∈ bs, IsEnt w b) (hx : w.cell? ⟨bx, 0, none⟩ = some (.pointer (some ⟨g, 0, none⟩))) (hg : IsEnt w g)
    (hj : j < bs.length) (hjg : bs[j] = g) (hno : ∀ i (hi : i < bs.length), i < j → bs[i] ≠ g) (hlen : bs.length ≤ 4611686018427387904) :
    Calls Tryd.prog 54 #[.slice A bs.length c, .func (.func 46) #[] #[.pointer (some ⟨bx, 0, none⟩)]] w fun e w' => e = .returned (.int .i64 j) ∧ w' = w := by
  have hcf := enters_of Tryd.func46 (by kernel_rfl) rfl
  unfold Enters at hcf
  have HB := Lib.hid hb
  have HR := Lib.hid hr
  have HNO := Lib.hid hno
  have HJG := Lib.hid hjg
  clear hb hr hno hjg
  go_enter Tryd.func54, Tryd.ntmps54
  go_wp2_with (fail)
  go_loopw [8] (fun i wr => ∃ k : Nat, k ≤ j ∧ i = .int .i64 k ∧ wr = w) (fun i _ => bs.length - (intOf i).toNat)
  case atStart => exact ⟨0, Nat.zero_le _, rfl, rfl⟩
  case round =>
    obtain ⟨k, hk, rfl, hwr⟩ := hrel
    subst hwr
    have hlt : k < bs.length := by omega
    have hkl : (k : Int) < bs.length := by omega
    obtain ⟨ad, u, rfl, _, hu, k0⟩ := HR.out.at_ hlt
    rw [List.getElem?_map, List.getElem?_eq_getElem hlt] at hu
    simp only [Option.map_some, Option.some.injEq] at hu
    have hbm := HB.out bs[k] (List.getElem_mem hlt)
    have hne : k < j → bs[k] ≠ g := fun h => HNO.out k hlt h
    have hje : k = j → bs[k] = g := fun h => by subst h; exact HJG.out
    generalize bs[k] = x at hu hbm hne hje
    unfold eP at hu
    subst hu
    have hcall := same_calls wr bx g x hx hg hbm
    have HC := Lib.hid hcall
    clear hcall
    go_wp2_with (fail)
    refine HC.out.mono ?_
    rintro e w1 ⟨rfl, hw1⟩
    subst hw1
    by_cases hkj : k = j
    · have hd : decide (x = g) = true := decide_eq_true (hje hkj)
      rw [hd]
      subst hkj
      clear hne hje hd
      go_wp2
      go_ret
      exact ⟨rfl, rfl⟩
    · have hd : decide (x = g) = false := decide_eq_false (hne (by omega))
      rw [hd]
      clear hne hje hd
      go_wp2
      go_roundw
      case rel => exact ⟨k + 1, by omega, by go_num, by first | rfl | trivial⟩
      case measure => simp [intOf]; omega
end Go.Proofs.YtmcknfpohnobdaaDoor
