/- custodyref10.Same by a contract. -/
import Derived.Test.YtmljiegeingpeaaDoorRef10b
import Derived.Laws.StructEq
import Derived.Deep.RegionHeld3
namespace Go.Proofs.YtmljiegeingpeaaDoor
set_option linter.unusedSimpArgs false
set_option linter.unusedVariables false
open Go.RowKit

instance : DecidableEq VerS := fun a b => decidable_of_iff (a.n = b.n ∧ a.v = b.v) ⟨fun h => by cases a; cases b; simp_all, fun h => by subst h; exact ⟨rfl, rfl⟩⟩
theorem bytes_toList {a b : ByteArray} : a.toList = b.toList ↔ a = b := by
  refine ⟨fun h => ?_, fun h => by rw [h]⟩
  rw [ByteArray.toList_eq, ByteArray.toList_eq] at h
  obtain ⟨⟨x⟩⟩ := a
  obtain ⟨⟨y⟩⟩ := b
  simpa using h
theorem eqVer (d : Nat) (w : World) (x y : VerS) :
    (Op.equalIn (d + 2) 72 (.agg #[.int .i64 x.n, .string x.v]) (.agg #[.int .i64 y.n, .string y.v])).run Tryd.prog w = .ok (decide (x = y)) w := by
  have hS : Tryd.prog.underlying 72 = some (.struct (Tryd.prog.fieldsOf 72)) := by kernel_rfl
  have hp : Tryd.prog.stoodInHeld 72 = false := by kernel_rfl
  rw [run_equalIn_struct w (d + 1) _ _ _ hS hp]
  simp only [Program.fieldsOf, Tryd.underlying72]
  go_simp
  by_cases h1 : x.n = y.n
  · by_cases h2 : x.v = y.v
    · have : x = y := by cases x; cases y; simp_all
      rw [if_pos h1, if_pos (by rw [h2]), decide_eq_true this]
    · have : x ≠ y := fun h => h2 (by rw [h])
      rw [if_pos h1, if_neg (fun h => h2 (bytes_toList.1 h)), decide_eq_false this]
  · have : x ≠ y := fun h => h1 (by rw [h])
    rw [if_neg h1, decide_eq_false this]
attribute [local go_sem high] eqVer

set_option maxRecDepth 100000 in
set_option maxHeartbeats 4000000 in
theorem sameV_calls (l m : List VerS) (A B : Option Addr) (c d : Nat) (w : World) (ha : Reads w w.heap.size 2 A l.length (versC l)) (hb : Reads w w.heap.size 2 B m.length (versC m)) (hlen : l.length ≤ 9382499223000) :
    Calls Tryd.prog 27 #[.slice A l.length c, .slice B m.length d] w fun e w' => e = .returned (.bool (decide (l = m))) ∧ Below w.heap.size w w' := by
  go_enter Tryd.func27, Tryd.ntmps27
  by_cases hn : l.length = m.length
  · rw [hn]
    go_wp2_with (fail)
    go_loopw [5] (fun i wr => ∃ k : Nat, k ≤ m.length ∧ i = .int .i64 k ∧ l.take k = m.take k ∧ Below w.heap.size w wr) (fun i _ => m.length - (intOf i).toNat)
    case atStart => exact ⟨0, Nat.zero_le _, rfl, by simp, Below.refl _ _⟩
    case round =>
      obtain ⟨k, hk, rfl, heq, hbel⟩ := hrel
      by_cases hlt : k < m.length
      · have hlt2 : k < l.length := by omega
        obtain ⟨ad, rfl, hadb, e0, e1⟩ := vers_at (ha.below hbel) hlt2
        obtain ⟨bd, rfl, hbdb, o0, o1⟩ := vers_at (hb.below hbel) hlt
        clear ha hb
        have hl' : (k : Int) < m.length := by omega
        have hs1 : l.take (k + 1) = l.take k ++ [l[k]] := by rw [List.take_succ_eq_append_getElem hlt2]
        have hs2 : m.take (k + 1) = m.take k ++ [m[k]] := by rw [List.take_succ_eq_append_getElem hlt]
        have hs3 : l = m → l[k] = m[k] := fun h => by subst h; rfl
        generalize hx : l[k] = x at e0 e1 hs1 hs3
        generalize hy : m[k] = y at o0 o1 hs2 hs3
        have HS1 := Lib.hid hs1
        have HS2 := Lib.hid hs2
        have HS3 := Lib.hid hs3
        clear hx hy hs1 hs2 hs3
        by_cases hxy : x = y
        · subst hxy
          have hd : decide (x = x) = true := by simp
          go_wp2_with (fail)
          go_quiet (fail)
          go_wp2_with (fail)
          go_roundw
          case rel => exact ⟨k + 1, by omega, by go_num, by rw [HS1.out, HS2.out, heq], below_drewN hbel _⟩
          case measure => simp [intOf]; omega
        · have hd : decide (x = y) = false := decide_eq_false hxy
          have HXY := Lib.hid hxy
          clear hxy
          go_wp2_with (fail)
          go_quiet (fail)
          go_wp2
          go_ret
          exact ⟨by rw [decide_eq_false (fun h => HXY.out (HS3.out h))]; rfl, below_drewN hbel _⟩
      · obtain rfl : k = m.length := by omega
        have hq : l = m := by rw [← hn, List.take_length, hn, List.take_length] at heq; exact heq
        have HQ := Lib.hid hq
        clear hq heq
        go_wp2
        go_ret
        exact ⟨by rw [decide_eq_true HQ.out]; rfl, hbel⟩
  · have hne : l ≠ m := fun h => hn (by rw [h])
    have HNE := Lib.hid hne
    have hn' : ((l.length : Nat) : Int) ≠ m.length := by omega
    clear hne
    go_wp2
    go_ret
    exact ⟨by rw [decide_eq_false HNE.out]; rfl, Below.refl _ _⟩
end Go.Proofs.YtmljiegeingpeaaDoor
