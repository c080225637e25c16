/- custodykit's lists of the kind Keys: marks, lent lists, and whether they were kept, by contracts. -/
import Derived.Test.YtflkddllofeiaaaGreatDoorKit0
namespace Go.Proofs.YtflkddllofeiaaaGreatDoor
set_option linter.unusedSimpArgs false
set_option linter.unusedVariables false
open Go.RowKit

def markKeys (k i : Int) : Key := ⟨mk0 k, i⟩
def markKeyss : List Key := (List.range 16).map fun (j : Nat) => markKeys 90 (j : Int)
theorem markKeyss_len : markKeyss.length = 16 := rfl
theorem infoKeys : (Tryz.prog.info? 33).map (fun i => (i.zero, i.size, i.bytes)) = some (some (.agg #[.int .i64 0, .int .i64 0]), 2, 16) := by kernel_rfl

set_option maxRecDepth 100000 in
theorem markKeys_calls (k i : Int) (w : World) (hk : 0 ≤ k ∧ k ≤ 6000000000000) : Calls Tryz.prog 48 #[.int .i64 k, .int .i64 i] w fun e w' => e = .returned (.agg #[.int .i64 (markKeys k i).acc, .int .i64 (markKeys k i).ast]) ∧ Below w.heap.size w w' := by
  obtain ⟨hk0, hk1⟩ := hk
  go_enter Tryz.func48, Tryz.ntmps48
  go_wp2
  refine bodyPost_ret (v := .agg #[.int .i64 (-10 - k), .int .i64 i]) (by simp [results, Tryz.results48, go_sem]) rfl ⟨rfl, ?_⟩
  exact (Below.refl _ _).alloc (Nat.le_refl _) _

theorem markKeys_cs (j : Nat) (hj : j < 16) : markKeyss.take (j + 1) = markKeyss.take j ++ [markKeys 90 (j : Int)] := by
  rw [List.take_succ_eq_append_getElem (by rw [markKeyss_len]; exact hj)]
  simp [markKeyss]

/-- A list lent: n elements; behind them 16 marks. -/
def LentRowKeys (w : World) (l : List Key) (e : Ending) (w' : World) : Prop :=
  ∃ g c, e = .returned (.slice (some ⟨g, 0, none⟩) l.length c) ∧ l.length + 16 ≤ c ∧ w'.ownsRow w.heap.size 33 2 (.slice (some ⟨g, 0, none⟩) (l.length + 16) c) (l.length + 16) (keysC (l ++ markKeyss)) ∧ Below w.heap.size w w'
theorem markKeys_at (l : List Key) (k : Nat) (h1 : l.length ≤ k) (h2 : k < (l ++ markKeyss).length) : (l ++ markKeyss)[k] = markKeys 90 ((k : Int) - (l.length : Int)) := by
  rw [List.getElem_append_right h1]
  simp [markKeyss, Int.natCast_sub h1]
end Go.Proofs.YtflkddllofeiaaaGreatDoor
