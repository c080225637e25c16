/- custodyref10.Same by a contract. -/
import Derived.Test.YtflkddllofeiaaaGreatDoorRef10b
import Derived.Laws.StructEq
import Derived.Deep.RegionHeld3
namespace Go.Proofs.YtflkddllofeiaaaGreatDoor
set_option linter.unusedSimpArgs false
set_option linter.unusedVariables false
open Go.RowKit

instance : DecidableEq VerS := fun a b => decidable_of_iff (a.n = b.n ∧ a.v = b.v) ⟨fun h => by cases a; cases b; simp_all, fun h => by subst h; exact ⟨rfl, rfl⟩⟩
theorem bytes_toList {a b : ByteArray} : a.toList = b.toList ↔ a = b := by
  refine ⟨fun h => ?_, fun h => by rw [h]⟩
  rw [ByteArray.toList_eq, ByteArray.toList_eq] at h
  obtain ⟨⟨x⟩⟩ := a
  obtain ⟨⟨y⟩⟩ := b
  simpa using h
theorem eqVer (d : Nat) (w : World) (x y : VerS) :
    (Op.equalIn (d + 2) 153 (.agg #[.int .i64 x.n, .string x.v]) (.agg #[.int .i64 y.n, .string y.v])).run Tryz.prog w = .ok (decide (x = y)) w := by
  have hS : Tryz.prog.underlying 153 = some (.struct (Tryz.prog.fieldsOf 153)) := by kernel_rfl
  have hp : Tryz.prog.stoodInHeld 153 = false := by kernel_rfl
  rw [run_equalIn_struct w (d + 1) _ _ _ hS hp]
  simp only [Program.fieldsOf, Tryz.underlying153]
  go_simp
  by_cases h1 : x.n = y.n
  · by_cases h2 : x.v = y.v
    · have : x = y := by cases x; cases y; simp_all
      rw [if_pos h1, if_pos (by rw [h2]), decide_eq_true this]
    · have : x ≠ y := fun h => h2 (by rw [h])
      rw [if_pos h1, if_neg (fun h => h2 (bytes_toList.1 h)), decide_eq_false this]
  · have : x ≠ y := fun h => h1 (by rw [h])
    rw [if_neg h1, decide_eq_false this]
attribute [local go_sem high] eqVer

end Go.Proofs.YtflkddllofeiaaaGreatDoor
