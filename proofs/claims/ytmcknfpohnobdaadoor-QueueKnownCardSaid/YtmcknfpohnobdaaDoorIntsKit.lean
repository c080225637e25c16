/- custodykit's lists of the kind Ints: marks, lent lists, and whether they were kept, by contracts. -/
import Derived.Test.YtmcknfpohnobdaaDoorKit0
namespace Go.Proofs.YtmcknfpohnobdaaDoor
set_option linter.unusedSimpArgs false
set_option linter.unusedVariables false
open Go.RowKit

def markInts (k i : Int) : Int := mkI k i
def markIntss : List Int := (List.range 16).map fun (j : Nat) => markInts 90 (j : Int)
theorem markIntss_len : markIntss.length = 16 := rfl
theorem infoInts : (Tryd.prog.info? 3).map (fun i => (i.zero, i.size, i.bytes)) = some (some (.int .i64 0), 1, 8) := by kernel_rfl

set_option maxRecDepth 100000 in
theorem markInts_calls (k i : Int) (w : World) (hk : 0 ≤ k ∧ k ≤ 3000000000000) (hi : -562949953421312 ≤ i ∧ i ≤ 562949953421312) : Calls Tryd.prog 37 #[.int .i64 k, .int .i64 i] w fun e w' => e = .returned (.int .i64 (markInts k i)) ∧ Below w.heap.size w w' := by
  obtain ⟨hk0, hk1⟩ := hk
  obtain ⟨hi0, hi1⟩ := hi
  go_enter Tryd.func37, Tryd.ntmps37
  go_wp2
  go_ret
  exact ⟨rfl, Below.refl _ _⟩

theorem markInts_cs (j : Nat) (hj : j < 16) : markIntss.take (j + 1) = markIntss.take j ++ [markInts 90 (j : Int)] := by
  rw [List.take_succ_eq_append_getElem (by rw [markIntss_len]; exact hj)]
  simp [markIntss]

/-- A list lent: n elements; behind them 16 marks. -/
def LentRowInts (w : World) (l : List Int) (e : Ending) (w' : World) : Prop :=
  ∃ g c, e = .returned (.slice (some ⟨g, 0, none⟩) l.length c) ∧ l.length + 16 ≤ c ∧ w'.ownsRow w.heap.size 3 1 (.slice (some ⟨g, 0, none⟩) (l.length + 16) c) (l.length + 16) (intsC (l ++ markIntss)) ∧ Below w.heap.size w w'
theorem markInts_at (l : List Int) (k : Nat) (h1 : l.length ≤ k) (h2 : k < (l ++ markIntss).length) : (l ++ markIntss)[k] = markInts 90 ((k : Int) - (l.length : Int)) := by
  rw [List.getElem_append_right h1]
  simp [markIntss, Int.natCast_sub h1]
end Go.Proofs.YtmcknfpohnobdaaDoor
