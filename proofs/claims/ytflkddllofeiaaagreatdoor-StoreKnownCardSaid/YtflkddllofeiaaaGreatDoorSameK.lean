/- custodyref0.SameKeys at one list twice. -/
import Derived.Test.YtflkddllofeiaaaGreatDoorStore
import Derived.Test.YtflkddllofeiaaaGreatDoorTail
namespace Go.Proofs.YtflkddllofeiaaaGreatDoor
set_option linter.unusedSimpArgs false
set_option linter.unusedVariables false
open Go.RowKit Go.MapKept Go.ChangeMaps Go.Maps

theorem keys_at2 {w : World} {B : Nat} {A : Option Addr} {l : List Key} (h : Reads w B 2 A l.length (keysC l)) {k : Nat} (hk : k < l.length) :
    ∃ ad, A = some ad ∧ ad.block < B ∧ w.cell? (ad.add (k * 2)) = some (.int .i64 l[k].acc) ∧ w.cell? ⟨(ad.add (k * 2)).block, (ad.add (k * 2)).off + 1, none⟩ = some (.int .i64 l[k].ast) := by
  obtain ⟨ad, e, hb, h0, h1⟩ := Reads.elem (enc := Key.cs) (fun _ => rfl) h hk
  exact ⟨ad, e, hb, h0 _ rfl, h1 1 _ (by omega) rfl⟩
set_option maxRecDepth 100000 in
set_option maxHeartbeats 2000000 in
theorem sameK_calls (l : List Key) (A B : Option Addr) (ca cb : Nat) (w : World) (ha : Reads w w.heap.size 2 A l.length (keysC l)) (hb : Reads w w.heap.size 2 B l.length (keysC l)) (hl : l.length ≤ 4611686018427387904) :
    Calls Tryz.prog 13 #[.slice A l.length ca, .slice B l.length cb] w fun e w' => e = .returned (.bool true) ∧ Below w.heap.size w w' := by
  have HA := Lib.hid ha
  have HB := Lib.hid hb
  clear ha hb
  go_enter Tryz.func13, Tryz.ntmps13
  go_wp2_with (fail)
  go_loopw [5] (fun i wr => ∃ k : Nat, k ≤ l.length ∧ i = .int .i64 k ∧ Below w.heap.size w wr) (fun i _ => l.length - (intOf i).toNat)
  case atStart => exact ⟨0, by omega, rfl, Below.refl _ _⟩
  case round =>
    obtain ⟨k, hk, rfl, hb⟩ := hrel
    by_cases hlt : k < l.length
    · have hkl : (k : Int) < l.length := by omega
      obtain ⟨WD, hWD⟩ : ∃ X, wr.drew = X := ⟨_, rfl⟩
      have hbd : Below w.heap.size w WD := hWD ▸ hb.drew
      obtain ⟨ad, rfl, _, k0, k1⟩ := keys_at2 (HA.out.below hbd) hlt
      obtain ⟨bd, rfl, _, l0, l1⟩ := keys_at2 (HB.out.below hbd) hlt
      generalize l[k] = x at k0 k1 l0 l1
      have HBD := Lib.hid hbd
      clear hbd hb
      go_wp2_with (fail)
      refine region_tail 8 (by kernel_rfl) (by kernel_rfl) ?_
      rw [hWD]
      simp only [List.take_succ_cons, List.take_zero, List.drop_succ_cons, List.drop_zero]
      repeat still_step
      refine wpStill_nil ?_
      clear k0 k1 l0 l1
      go_wp2
      go_roundw
      case rel => exact ⟨k + 1, by omega, by go_num, HBD.out⟩
      case measure => simp [intOf]; omega
    · obtain rfl : k = l.length := by omega
      have HBD := Lib.hid hb
      clear hb
      go_wp2
      go_ret
      exact ⟨rfl, HBD.out⟩
end Go.Proofs.YtflkddllofeiaaaGreatDoor
