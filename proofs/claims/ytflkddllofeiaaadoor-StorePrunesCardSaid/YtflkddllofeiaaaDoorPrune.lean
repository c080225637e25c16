/- What pruning leaves, in plain Lean (out of t10/XActs). -/
import Derived.Test.YtflkddllofeiaaaDoorLastV
namespace Go.Proofs.YtflkddllofeiaaaDoor
set_option linter.unusedSimpArgs false
set_option linter.unusedVariables false
open Go.RowKit

section
variable {V : Type} {L : List (Ver V)}
theorem pruneL_eq (L : List (Ver V)) (n : Int) : pruneL L n = L.drop (leN L n - 1) := by
  unfold pruneL
  split
  · rename_i h; rw [show leN L n - 1 = 0 by omega]; rfl
  · rfl
theorem pruneN_eq (L : List (Ver V)) (n : Int) : pruneN L n = ((leN L n - 1 : Nat) : Int) := by unfold pruneN; split <;> omega
theorem leN_mono (h : UpV L) {n m : Int} (hnm : n ≤ m) : leN L n ≤ leN L m := by
  rcases Nat.lt_or_ge (leN L m) (leN L n) with h1 | h1
  · have h2 := leN_le L n
    have h3 := (leN_lt h (n := n) (k := leN L m) (by omega)).1 h1
    have h4 := (leN_lt h (n := m) (k := leN L m) (by omega)).2 (by omega)
    omega
  · exact h1
theorem leN_drop (h : UpV L) {m : Int} {j : Nat} (hj : j ≤ leN L m) : leN (L.drop j) m = leN L m - j := by
  have h1 := leN_le L m
  refine le_split (by simp; omega) (fun k hk hkm => ?_) (fun k hk hkm => ?_)
  · rw [List.getElem_drop]
    exact (leN_lt h (by simp at hk; omega)).1 (by omega)
  · rw [List.getElem_drop]
    have h2 := mt (leN_lt h (n := m) (k := j + k) (by simp at hk; omega)).2 (by omega)
    omega
theorem leN_drop_le (L : List (Ver V)) (j : Nat) (m : Int) : leN (L.drop j) m ≤ leN L m := ((List.drop_sublist j L).filter _).length_le
theorem leN_pos_mem {n : Int} : 0 < leN L n ↔ ∃ x ∈ L, x.n ≤ n := by
  unfold leN
  rw [List.length_pos_iff_exists_mem]
  simp
/-- Pruned in two steps is as in one. -/
theorem prune_prune (h : UpV L) {n m : Int} (hnm : n ≤ m) : pruneL (pruneL L n) m = pruneL L m ∧ pruneN L m = pruneN L n + pruneN (pruneL L n) m := by
  have h1 := leN_mono h hnm
  have h2 := leN_drop h (m := m) (j := leN L n - 1) (by omega)
  rw [pruneL_eq L n, pruneL_eq _ m, pruneL_eq L m, pruneN_eq, pruneN_eq, pruneN_eq, h2, List.drop_drop]
  refine ⟨by congr 1; omega, by omega⟩
theorem prune_again (h : UpV L) (n : Int) : pruneL (pruneL L n) n = pruneL L n ∧ pruneN (pruneL L n) n = 0 := by
  have h1 := prune_prune h (Int.le_refl n)
  refine ⟨h1.1, by omega⟩
theorem prune_low (h : UpV L) (n : Int) : leN (pruneL L n) n ≤ 1 := by
  rw [pruneL_eq, leN_drop h (by omega)]
  omega
theorem prune_len (L : List (Ver V)) (n : Int) : ((pruneL L n).length : Int) = L.length - pruneN L n := by
  have := leN_le L n
  rw [pruneL_eq, pruneN_eq]
  simp
  omega
theorem prune_pos (h : UpV L) {n m : Int} (hnm : n ≤ m) : 0 < leN (pruneL L n) m ↔ 0 < leN L m := by
  have := leN_mono h hnm
  rw [pruneL_eq, leN_drop h (by omega)]
  omega
theorem prune_sub (L : List (Ver V)) (n m : Int) (h : 0 < leN (pruneL L n) m) : 0 < leN L m := by
  rw [pruneL_eq] at h
  exact Nat.lt_of_lt_of_le h (leN_drop_le L _ m)
theorem prune_at (h : UpV L) {n m : Int} (hnm : n ≤ m) (hp : 0 < leN L m) : (pruneL L n)[leN (pruneL L n) m - 1]? = L[leN L m - 1]? := by
  have := leN_mono h hnm
  rw [pruneL_eq, leN_drop h (by omega), List.getElem?_drop]
  congr 1
  omega
theorem prune_last? (L : List (Ver V)) (n : Int) : (pruneL L n).getLast? = L.getLast? := by
  have := leN_le L n
  rw [pruneL_eq, List.getLast?_drop]
  split
  · rename_i h
    have : L = [] := List.eq_nil_of_length_eq_zero (by omega)
    subst this; rfl
  · rfl
theorem prune_nil (L : List (Ver V)) (n : Int) : (pruneL L n).length = 0 ↔ L.length = 0 := by
  have := leN_le L n
  rw [pruneL_eq]
  simp only [List.length_drop]
  omega
end
theorem prune_lastV (L : List VerS) (n : Int) : lastV (pruneL L n) = lastV L := by unfold lastV; rw [prune_last?]
theorem prune_lastM (L : List VerS) (n : Int) : lastM (pruneL L n) = lastM L := by
  unfold lastM lastNo
  rw [prune_last?]
  by_cases h : L.length = 0
  · rw [if_pos h, if_pos ((prune_nil L n).2 h)]
  · rw [if_neg h, if_neg (fun h2 => h ((prune_nil L n).1 h2))]
theorem prune_atV {L : List VerS} (h : UpV L) {n m : Int} (hnm : n ≤ m) : atV (pruneL L n) m = atV L m := by
  have hp := prune_pos h hnm
  unfold atV
  by_cases h0 : leN L m = 0
  · rw [if_pos h0, if_pos (by omega)]
  · rw [if_neg h0, if_neg (by omega), prune_at h hnm (by omega)]

end Go.Proofs.YtflkddllofeiaaaDoor
