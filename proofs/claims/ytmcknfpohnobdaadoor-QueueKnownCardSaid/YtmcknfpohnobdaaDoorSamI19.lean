/- SameInts, SameLists at lists that are the same. -/
import Derived.Test.YtmcknfpohnobdaaDoorPm19
import Derived.BigQuiet
namespace Go.Proofs.YtmcknfpohnobdaaDoor
set_option linter.unusedSimpArgs false
set_option linter.unusedVariables false
open Go.RowKit

set_option maxRecDepth 100000 in
set_option maxHeartbeats 4000000 in
theorem sameInts_draws (l : List Int) (A B : Option Addr) (c d : Nat) (w : World) (ha : Reads w w.heap.size 1 A l.length (intsC l)) (hb : Reads w w.heap.size 1 B l.length (intsC l)) (hlen : l.length ≤ 4611686018427387904) :
    Calls Tryd.prog 15 #[.slice A l.length c, .slice B l.length d] w fun e w' => e = .returned (.bool true) ∧ ∃ n, w' = w.drewN n := by
  have HA := Lib.hid ha
  have HB := Lib.hid hb
  clear ha hb
  go_enter Tryd.func15, Tryd.ntmps15
  go_wp2_with (fail)
  go_loopw [5] (fun i wr => ∃ k : Nat, k ≤ l.length ∧ i = .int .i64 k ∧ ∃ n, wr = w.drewN n) (fun i _ => l.length - (intOf i).toNat)
  case atStart => exact ⟨0, Nat.zero_le _, rfl, 0, rfl⟩
  case round =>
    obtain ⟨k, hk, rfl, n, hwr⟩ := hrel
    have hD : Below w.heap.size w wr := hwr ▸ below_drewN (Below.refl _ _) _
    have HW := Lib.hid hwr
    clear hwr
    by_cases hlt : k < l.length
    · obtain ⟨ad, rfl, hadb, e0⟩ := ints_at (HA.out.below hD) hlt
      obtain ⟨bd, rfl, hbdb, o0⟩ := ints_at (HB.out.below hD) hlt
      have hl' : (k : Int) < l.length := by omega
      generalize l[k] = x at e0 o0
      clear hD
      go_wp2_with (fail)
      go_quiet (fail)
      go_wp2
      go_roundw
      case rel => exact ⟨k + 1, by omega, by go_num, n + nq, by rw [HW.out]; simp [World.drewN, Nat.add_assoc]⟩
      case measure => simp [intOf]; omega
    · obtain rfl : k = l.length := by omega
      clear hD
      go_wp2
      go_ret
      exact ⟨rfl, _, HW.out⟩

/-- A list of numbers as an element of a list. -/
structure IL where
  A : Option Addr
  xs : List Int
  c : Nat
def IL.v (x : IL) : Value := .slice x.A x.xs.length x.c
def IL.cs (x : IL) : List Value := [.slice x.A x.xs.length x.c]
theorem IL.len (x : IL) : x.cs.length = 1 := rfl
theorem il_at {w : World} {B : Nat} {A : Option Addr} {P : List IL} (h : Reads w B 1 A P.length (P.flatMap IL.cs)) {k : Nat} (hk : k < P.length) : ∃ ad, A = some ad ∧ ad.block < B ∧ w.cell? (ad.add k) = some (.slice P[k].A P[k].xs.length P[k].c) := by
  obtain ⟨ad, e, hb, h0, _⟩ := Reads.elem IL.len h hk
  exact ⟨ad, e, hb, by simpa using h0 _ rfl⟩
set_option maxRecDepth 100000 in
set_option maxHeartbeats 4000000 in
theorem sameLists_draws (P Q : List IL) (A B : Option Addr) (c d : Nat) (w : World) (ha : Reads w w.heap.size 1 A P.length (P.flatMap IL.cs)) (hb : Reads w w.heap.size 1 B Q.length (Q.flatMap IL.cs)) (hpq : P.map IL.xs = Q.map IL.xs)
    (hp : ∀ x ∈ P, Reads w w.heap.size 1 x.A x.xs.length (intsC x.xs)) (hq : ∀ x ∈ Q, Reads w w.heap.size 1 x.A x.xs.length (intsC x.xs)) (hl : ∀ x ∈ P, x.xs.length ≤ 4611686018427387904) (hlen : P.length ≤ 4611686018427387904) :
    Calls Tryd.prog 13 #[.slice A P.length c, .slice B Q.length d] w fun e w' => e = .returned (.bool true) ∧ ∃ n, w' = w.drewN n := by
  have hpl : P.length = Q.length := by simpa using congrArg List.length hpq
  have HA := Lib.hid ha
  have HB := Lib.hid hb
  have HP := Lib.hid hp
  have HQ := Lib.hid hq
  have HL := Lib.hid hl
  have HPQ := Lib.hid hpq
  have HPL := Lib.hid hpl
  clear ha hb hp hq hl hpq hpl
  rw [← HPL.out]
  go_enter Tryd.func13, Tryd.ntmps13
  go_wp2_with (fail)
  go_loopw [5] (fun i wr => ∃ k : Nat, k ≤ P.length ∧ i = .int .i64 k ∧ ∃ n, wr = w.drewN n) (fun i _ => P.length - (intOf i).toNat)
  case atStart => exact ⟨0, Nat.zero_le _, rfl, 0, rfl⟩
  case round =>
    obtain ⟨k, hk, rfl, n, hwr⟩ := hrel
    by_cases hlt : k < P.length
    · have hltQ : k < Q.length := by have := HPL.out; omega
      have hD : ∀ m, Below w.heap.size w (wr.drewN m) := fun m => hwr ▸ below_drewN (below_drewN (Below.refl _ _) _) _
      obtain ⟨ad, rfl, hadb, e0⟩ := il_at (w := wr) (HA.out.below (hD 0)) hlt
      obtain ⟨bd, rfl, hbdb, o0⟩ := il_at (w := wr) (HB.out.below (hD 0)) hltQ
      have hxy : Q[k].xs = P[k].xs := by
        have := congrArg (fun l => l[k]?) HPQ.out
        simp only [List.getElem?_map, List.getElem?_eq_getElem hlt, List.getElem?_eq_getElem hltQ, Option.map_some, Option.some.injEq] at this
        exact this.symm
      have hrx := HP.out _ (List.getElem_mem hlt)
      have hry := HQ.out _ (List.getElem_mem hltQ)
      have hxl := HL.out _ (List.getElem_mem hlt)
      rw [hxy] at hry o0
      generalize P[k] = x at e0 hrx hxl hry o0 hxy
      generalize Q[k] = y at hry o0 hxy
      have hsi : ∀ m, Calls Tryd.prog 15 #[.slice x.A x.xs.length x.c, .slice y.A x.xs.length y.c] (wr.drewN m) fun e w' => e = .returned (.bool true) ∧ ∃ j, w' = wr.drewN j := fun m =>
        (sameInts_draws x.xs x.A y.A x.c y.c (wr.drewN m) ((hrx.below (hD m)).more (hD m).size) ((hry.below (hD m)).more (hD m).size) hxl).mono (fun e w' h => ⟨h.1, by obtain ⟨j, hj⟩ := h.2; exact ⟨m + j, by rw [hj]; simp [World.drewN, Nat.add_assoc]⟩⟩)
      have hl' : (k : Int) < P.length := by omega
      have HSI := Lib.hid hsi
      have HW := Lib.hid hwr
      clear hwr hD hsi hrx hry hxl hxy
      go_wp2_with (fail)
      go_quiet ((go_at_call 15; with_reducible exact HSI.out _))
      go_wp2
      go_roundw
      case rel => exact ⟨k + 1, by omega, by go_num, n + nq, by rw [HW.out]; simp [World.drewN, Nat.add_assoc]⟩
      case measure => simp [intOf]; omega
    · obtain rfl : k = P.length := by omega
      have HW := Lib.hid hwr
      clear hwr
      go_wp2
      go_ret
      exact ⟨rfl, _, HW.out⟩
end Go.Proofs.YtmcknfpohnobdaaDoor
