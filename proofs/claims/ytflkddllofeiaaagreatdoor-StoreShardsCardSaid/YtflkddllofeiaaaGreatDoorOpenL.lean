/- A slice of whole numbers as an argument, opened as a list. -/
import Derived.Test.YtflkddllofeiaaaGreatDoorOpen
namespace Go.Proofs.YtflkddllofeiaaaGreatDoor
set_option linter.unusedSimpArgs false
open Go.RowKit Go.ChangeShapes Go.WideShapes Go.Deep Go.Joins
set_option linter.unusedVariables false
section
variable {H : Type} {enc : TypeId × Value → H} {P : Program} {w : World} {base : Nat} {held : Bool}
theorem ints_nth (l : List Int) (k : Nat) : (intsC l)[k]? = l[k]?.map (Value.int .i64) := by
  induction l generalizing k with
  | nil => rfl
  | cons x l ih =>
    cases k with
    | zero => rfl
    | succ k => simpa [intsC, Int.cs] using ih k
theorem open_longs {t e : TypeId} {fuel : Nat} {v : Value} {x : DataW H × List MemPlace} (ht : P.underlying t = some (.slice e)) (he : P.underlying e = some (.int .i64)) (hc : P.cellsOf e = 1)
    (h : DataW.trod enc P w base (fun _ => true) held fuel t [v] = some x) :
    ∃ (xs : List Int) (A : Option Addr) (c : Nat), v = .slice A xs.length c ∧ xs.length ≤ c ∧ c ≤ maxLen ∧ Reads w w.heap.size 1 A xs.length (intsC xs) ∧ (∀ y ∈ xs, (Lit.int .i64 y).wf = true) ∧
      (∀ {B : Nat}, P.bytesOf e = B → (x.1.weights P t).all (· ≤ reachBytes) = true → xs.length * B ≤ 140737488351232) := by
  rcases open_ints ht he hc h with ⟨hv, _⟩ | ⟨a, len, cap, zs, hv, _, hl, hm, hz, hx, hcell, hwf⟩
  · simp only [List.cons.injEq, and_true] at hv
    subst hv
    exact ⟨[], none, 0, rfl, Nat.le_refl _, Nat.zero_le _, Reads.none_, fun y hy => by simp at hy, fun _ _ => by simp⟩
  · simp only [List.cons.injEq, and_true] at hv
    subst hv
    rw [if_pos rfl] at hz
    have hlen : (zs.take len).length = len := by rw [List.length_take]; omega
    refine ⟨zs.take len, some a, cap, by rw [hlen], by omega, hm, ⟨by rw [hlen]; simp [intsC, Int.cs, List.length_flatMap, List.map_const']; omega, fun h0 => ⟨a, rfl, ?_, fun j u hj => ?_⟩⟩, fun y hy => hwf y (List.mem_of_mem_take hy), fun hB hw => ?_⟩
    · rw [hlen] at h0
      have h1 := hcell 0 (by omega)
      have h2 := World.block_lt_of_cell? w _ h1
      rwa [block_of_add] at h2
    · rw [ints_nth] at hj
      rw [Option.map_eq_some_iff] at hj
      obtain ⟨y, hy, rfl⟩ := hj
      rw [List.getElem?_take] at hy
      split at hy
      · rename_i hjl
        have hjz : j < zs.length := by omega
        rw [hcell j hjz]
        simp only [List.getD_eq_getElem?_getD, hy, Option.getD_some]
      · cases hy
    · subst hx
      have z := weights_slice ht hw
      rw [hB] at z
      refine Nat.le_trans (Nat.mul_le_mul_right _ ?_) z
      simp only [lits, List.length_map]
      omega
end
end Go.Proofs.YtflkddllofeiaaaGreatDoor
