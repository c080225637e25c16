/- custodyref16.Decode by contracts (printed by gen_refdec.py). -/
import Derived.Test.YtmdkcggmnejkoaaDoorBackPlain
namespace Go.Proofs.YtmdkcggmnejkoaaDoor
set_option linter.unusedSimpArgs false
set_option linter.unusedVariables false
open Go.RowKit

theorem fixed_calls (c k : Int) (w : World) (h : (c = 1 ∧ k = 3) ∨ (c = 2 ∧ k = 3) ∨ (c = 3 ∧ k = 4) ∨ (c = 4 ∧ k = 4) ∨ (c = 5 ∧ k = -1) ∨ (c = 6 ∧ k = 1) ∨ (c = 7 ∧ k = 1) ∨ (c = 8 ∧ k = -1)) :
    Calls Tryd.prog 56 #[.int .i64 c] w fun e w' => e = .returned (.int .i64 k) ∧ w = w' := by
  rcases h with ⟨rfl, rfl⟩ | ⟨rfl, rfl⟩ | ⟨rfl, rfl⟩ | ⟨rfl, rfl⟩ | ⟨rfl, rfl⟩ | ⟨rfl, rfl⟩ | ⟨rfl, rfl⟩ | ⟨rfl, rfl⟩
  all_goals
    go_enter Tryd.func56, Tryd.ntmps56
    go_wp2
    go_ret
    exact ⟨rfl, rfl⟩

def RefDecTo (w : World) (res : OpM × Int) (e : Ending) (w' : World) : Prop :=
  ∃ L P, e = .returned (.tuple #[.agg (res.1.cs L P), .int .i64 res.2]) ∧ w'.ownsRow w.heap.size 45 5 L res.1.ls.length (legsC res.1.ls) ∧ w'.ownsRow w.heap.size 47 2 P res.1.ks.length (keysC res.1.ks) ∧ Below w.heap.size w w'

set_option maxRecDepth 100000 in
set_option maxHeartbeats 4000000 in
theorem rdec_nil (A : Option Addr) (cap : Nat) (w : World) : Calls Tryd.prog 24 #[.slice A 0 cap] w (RefDecTo w (OpM.zero, 2)) := by
  go_enter Tryd.func24, Tryd.ntmps24
  go_wp2
  refine bodyPost_ret (v := .tuple #[.agg (opCs 0 0 0 0 0 0 nilS nilS), .int .i64 2]) (by simp [results, Tryd.results24, go_sem, opCs]) rfl ?_
  exact ⟨nilS, nilS, rfl, World.ownsRow_nil _ _ _ _, World.ownsRow_nil _ _ _ _, (Below.refl _ _).alloc (Nat.le_refl _) _⟩

set_option maxRecDepth 100000 in
set_option maxHeartbeats 4000000 in
theorem rdec_low (c : Int) (A : Option Addr) (n cap : Nat) (w : World) (h0 : 0 < n) (hc : ∃ ad, A = some ad ∧ ad.block < w.heap.size ∧ w.cell? ad = some (.int .i64 c)) (hn : n ≤ 17592186044416) (hx : c < 1) : Calls Tryd.prog 24 #[.slice A n cap] w (RefDecTo w (OpM.zero, 13)) := by
  obtain ⟨ad, rfl, hb, hcell⟩ := hc
  have hn0 : (0 : Int) < n := by omega
  have hw : IntKind.i64.wrap ((n : Int) - 1) = (n : Int) - 1 := by rw [IntKind.wrap_i64]; omega
  have hn1 : ¬ (n : Int) - 1 < 0 := by omega
  have hcell' := fun o => cell_alloc hcell o
  go_enter Tryd.func24, Tryd.ntmps24
  go_wp2_with (fail)
  refine bodyPost_ret (v := .tuple #[.agg (opCs 0 0 0 0 0 0 nilS nilS), .int .i64 13]) (by simp [results, Tryd.results24, go_sem, opCs]) rfl ?_
  exact ⟨nilS, nilS, rfl, World.ownsRow_nil _ _ _ _, World.ownsRow_nil _ _ _ _, (Below.refl _ _).alloc (Nat.le_refl _) _⟩

set_option maxRecDepth 100000 in
set_option maxHeartbeats 4000000 in
theorem rdec_high (c : Int) (A : Option Addr) (n cap : Nat) (w : World) (h0 : 0 < n) (hc : ∃ ad, A = some ad ∧ ad.block < w.heap.size ∧ w.cell? ad = some (.int .i64 c)) (hn : n ≤ 17592186044416) (hx : 8 < c) : Calls Tryd.prog 24 #[.slice A n cap] w (RefDecTo w (OpM.zero, 13)) := by
  obtain ⟨ad, rfl, hb, hcell⟩ := hc
  have hn0 : (0 : Int) < n := by omega
  have hw : IntKind.i64.wrap ((n : Int) - 1) = (n : Int) - 1 := by rw [IntKind.wrap_i64]; omega
  have hn1 : ¬ (n : Int) - 1 < 0 := by omega
  have hcell' := fun o => cell_alloc hcell o
  have hx1 : ¬ c < 1 := by omega
  go_enter Tryd.func24, Tryd.ntmps24
  go_wp2_with (fail)
  refine bodyPost_ret (v := .tuple #[.agg (opCs 0 0 0 0 0 0 nilS nilS), .int .i64 13]) (by simp [results, Tryd.results24, go_sem, opCs]) rfl ?_
  exact ⟨nilS, nilS, rfl, World.ownsRow_nil _ _ _ _, World.ownsRow_nil _ _ _ _, (Below.refl _ _).alloc (Nat.le_refl _) _⟩

set_option maxRecDepth 100000 in
set_option maxHeartbeats 4000000 in
theorem rdec_short1 (A : Option Addr) (n cap : Nat) (w : World) (h0 : 0 < n) (hc : ∃ ad, A = some ad ∧ ad.block < w.heap.size ∧ w.cell? ad = some (.int .i64 1)) (hn : n ≤ 17592186044416) (hs : n < 4) : Calls Tryd.prog 24 #[.slice A n cap] w (RefDecTo w (OpM.zero, 2)) := by
  obtain ⟨ad, rfl, hb, hcell⟩ := hc
  have hn0 : (0 : Int) < n := by omega
  have hw : IntKind.i64.wrap ((n : Int) - 1) = (n : Int) - 1 := by rw [IntKind.wrap_i64]; omega
  have hn1 : ¬ (n : Int) - 1 < 0 := by omega
  have hcell' := fun o => cell_alloc hcell o
  have h1 : (n : Int) - 1 < 3 := by omega
  have h2 : ¬ (3 : Int) < (n : Int) - 1 := by omega
  go_enter Tryd.func24, Tryd.ntmps24
  go_wp2_with (first | (go_at_call 56; refine (fixed_calls 1 3 _ (by simp)).mono ?_; rintro e w1 ⟨rfl, rfl⟩))
  refine bodyPost_ret (v := .tuple #[.agg (opCs 0 0 0 0 0 0 nilS nilS), .int .i64 2]) (by simp [results, Tryd.results24, go_sem, opCs]) rfl ?_
  exact ⟨nilS, nilS, rfl, World.ownsRow_nil _ _ _ _, World.ownsRow_nil _ _ _ _, ((Below.refl _ _).alloc (Nat.le_refl _) _).alloc (by simp) _⟩

set_option maxRecDepth 100000 in
set_option maxHeartbeats 4000000 in
theorem rdec_long1 (A : Option Addr) (n cap : Nat) (w : World) (h0 : 0 < n) (hc : ∃ ad, A = some ad ∧ ad.block < w.heap.size ∧ w.cell? ad = some (.int .i64 1)) (hn : n ≤ 17592186044416) (hs : 4 < n) : Calls Tryd.prog 24 #[.slice A n cap] w (RefDecTo w (OpM.zero, 3)) := by
  obtain ⟨ad, rfl, hb, hcell⟩ := hc
  have hn0 : (0 : Int) < n := by omega
  have hw : IntKind.i64.wrap ((n : Int) - 1) = (n : Int) - 1 := by rw [IntKind.wrap_i64]; omega
  have hn1 : ¬ (n : Int) - 1 < 0 := by omega
  have hcell' := fun o => cell_alloc hcell o
  have h2 : (3 : Int) < (n : Int) - 1 := by omega
  go_enter Tryd.func24, Tryd.ntmps24
  go_wp2_with (first | (go_at_call 56; refine (fixed_calls 1 3 _ (by simp)).mono ?_; rintro e w1 ⟨rfl, rfl⟩))
  refine bodyPost_ret (v := .tuple #[.agg (opCs 0 0 0 0 0 0 nilS nilS), .int .i64 3]) (by simp [results, Tryd.results24, go_sem, opCs]) rfl ?_
  exact ⟨nilS, nilS, rfl, World.ownsRow_nil _ _ _ _, World.ownsRow_nil _ _ _ _, ((Below.refl _ _).alloc (Nat.le_refl _) _).alloc (by simp) _⟩

set_option maxRecDepth 100000 in
set_option maxHeartbeats 4000000 in
theorem rdec_ok1 (A : Option Addr) (x y z : Int) (cap : Nat) (w : World) (hr : Reads w w.heap.size 1 A 4 (intsC [1, x, y, z])) (hcap : 4 ≤ cap) : Calls Tryd.prog 24 #[.slice A 4 cap] w (RefDecTo w (⟨1, x, y, z, 0, 0, [], []⟩, 0)) := by
  obtain ⟨ad, rfl, hb, hcell⟩ := hr.2 (by omega)
  have c0 : w.cell? ad = some (.int .i64 1) := by have := hcell 0 _ rfl; simpa [Addr.add] using this
  have c1 : w.cell? ⟨ad.block, ad.off + 1, none⟩ = some (.int .i64 x) := by have := hcell 1 _ rfl; simpa [Addr.add] using this
  have c2 : w.cell? ⟨ad.block, ad.off + 2, none⟩ = some (.int .i64 y) := by have := hcell 2 _ rfl; simpa [Addr.add] using this
  have c3 : w.cell? ⟨ad.block, ad.off + 3, none⟩ = some (.int .i64 z) := by have := hcell 3 _ rfl; simpa [Addr.add] using this
  have hcell0 := fun o => cell_alloc c0 o
  go_enter Tryd.func24, Tryd.ntmps24
  go_wp2_with (first | (go_at_call 56; refine (fixed_calls 1 3 _ (by simp)).mono ?_; rintro e w1 ⟨rfl, rfl⟩))
  refine bodyPost_ret (v := .tuple #[.agg (opCs 1 x y z 0 0 nilS nilS), .int .i64 0]) (by simp [results, Tryd.results24, go_sem, opCs]) rfl ?_
  exact ⟨nilS, nilS, rfl, World.ownsRow_nil _ _ _ _, World.ownsRow_nil _ _ _ _, ((Below.refl _ _).alloc (Nat.le_refl _) _).alloc (by simp) _⟩

set_option maxRecDepth 100000 in
set_option maxHeartbeats 4000000 in
theorem rdec_short2 (A : Option Addr) (n cap : Nat) (w : World) (h0 : 0 < n) (hc : ∃ ad, A = some ad ∧ ad.block < w.heap.size ∧ w.cell? ad = some (.int .i64 2)) (hn : n ≤ 17592186044416) (hs : n < 4) : Calls Tryd.prog 24 #[.slice A n cap] w (RefDecTo w (OpM.zero, 2)) := by
  obtain ⟨ad, rfl, hb, hcell⟩ := hc
  have hn0 : (0 : Int) < n := by omega
  have hw : IntKind.i64.wrap ((n : Int) - 1) = (n : Int) - 1 := by rw [IntKind.wrap_i64]; omega
  have hn1 : ¬ (n : Int) - 1 < 0 := by omega
  have hcell' := fun o => cell_alloc hcell o
  have h1 : (n : Int) - 1 < 3 := by omega
  have h2 : ¬ (3 : Int) < (n : Int) - 1 := by omega
  go_enter Tryd.func24, Tryd.ntmps24
  go_wp2_with (first | (go_at_call 56; refine (fixed_calls 2 3 _ (by simp)).mono ?_; rintro e w1 ⟨rfl, rfl⟩))
  refine bodyPost_ret (v := .tuple #[.agg (opCs 0 0 0 0 0 0 nilS nilS), .int .i64 2]) (by simp [results, Tryd.results24, go_sem, opCs]) rfl ?_
  exact ⟨nilS, nilS, rfl, World.ownsRow_nil _ _ _ _, World.ownsRow_nil _ _ _ _, ((Below.refl _ _).alloc (Nat.le_refl _) _).alloc (by simp) _⟩

set_option maxRecDepth 100000 in
set_option maxHeartbeats 4000000 in
theorem rdec_long2 (A : Option Addr) (n cap : Nat) (w : World) (h0 : 0 < n) (hc : ∃ ad, A = some ad ∧ ad.block < w.heap.size ∧ w.cell? ad = some (.int .i64 2)) (hn : n ≤ 17592186044416) (hs : 4 < n) : Calls Tryd.prog 24 #[.slice A n cap] w (RefDecTo w (OpM.zero, 3)) := by
  obtain ⟨ad, rfl, hb, hcell⟩ := hc
  have hn0 : (0 : Int) < n := by omega
  have hw : IntKind.i64.wrap ((n : Int) - 1) = (n : Int) - 1 := by rw [IntKind.wrap_i64]; omega
  have hn1 : ¬ (n : Int) - 1 < 0 := by omega
  have hcell' := fun o => cell_alloc hcell o
  have h2 : (3 : Int) < (n : Int) - 1 := by omega
  go_enter Tryd.func24, Tryd.ntmps24
  go_wp2_with (first | (go_at_call 56; refine (fixed_calls 2 3 _ (by simp)).mono ?_; rintro e w1 ⟨rfl, rfl⟩))
  refine bodyPost_ret (v := .tuple #[.agg (opCs 0 0 0 0 0 0 nilS nilS), .int .i64 3]) (by simp [results, Tryd.results24, go_sem, opCs]) rfl ?_
  exact ⟨nilS, nilS, rfl, World.ownsRow_nil _ _ _ _, World.ownsRow_nil _ _ _ _, ((Below.refl _ _).alloc (Nat.le_refl _) _).alloc (by simp) _⟩

set_option maxRecDepth 100000 in
set_option maxHeartbeats 4000000 in
theorem rdec_ok2 (A : Option Addr) (x y z : Int) (cap : Nat) (w : World) (hr : Reads w w.heap.size 1 A 4 (intsC [2, x, y, z])) (hcap : 4 ≤ cap) : Calls Tryd.prog 24 #[.slice A 4 cap] w (RefDecTo w (⟨2, x, y, z, 0, 0, [], []⟩, 0)) := by
  obtain ⟨ad, rfl, hb, hcell⟩ := hr.2 (by omega)
  have c0 : w.cell? ad = some (.int .i64 2) := by have := hcell 0 _ rfl; simpa [Addr.add] using this
  have c1 : w.cell? ⟨ad.block, ad.off + 1, none⟩ = some (.int .i64 x) := by have := hcell 1 _ rfl; simpa [Addr.add] using this
  have c2 : w.cell? ⟨ad.block, ad.off + 2, none⟩ = some (.int .i64 y) := by have := hcell 2 _ rfl; simpa [Addr.add] using this
  have c3 : w.cell? ⟨ad.block, ad.off + 3, none⟩ = some (.int .i64 z) := by have := hcell 3 _ rfl; simpa [Addr.add] using this
  have hcell0 := fun o => cell_alloc c0 o
  go_enter Tryd.func24, Tryd.ntmps24
  go_wp2_with (first | (go_at_call 56; refine (fixed_calls 2 3 _ (by simp)).mono ?_; rintro e w1 ⟨rfl, rfl⟩))
  refine bodyPost_ret (v := .tuple #[.agg (opCs 2 x y z 0 0 nilS nilS), .int .i64 0]) (by simp [results, Tryd.results24, go_sem, opCs]) rfl ?_
  exact ⟨nilS, nilS, rfl, World.ownsRow_nil _ _ _ _, World.ownsRow_nil _ _ _ _, ((Below.refl _ _).alloc (Nat.le_refl _) _).alloc (by simp) _⟩

set_option maxRecDepth 100000 in
set_option maxHeartbeats 4000000 in
theorem rdec_short3 (A : Option Addr) (n cap : Nat) (w : World) (h0 : 0 < n) (hc : ∃ ad, A = some ad ∧ ad.block < w.heap.size ∧ w.cell? ad = some (.int .i64 3)) (hn : n ≤ 17592186044416) (hs : n < 5) : Calls Tryd.prog 24 #[.slice A n cap] w (RefDecTo w (OpM.zero, 2)) := by
  obtain ⟨ad, rfl, hb, hcell⟩ := hc
  have hn0 : (0 : Int) < n := by omega
  have hw : IntKind.i64.wrap ((n : Int) - 1) = (n : Int) - 1 := by rw [IntKind.wrap_i64]; omega
  have hn1 : ¬ (n : Int) - 1 < 0 := by omega
  have hcell' := fun o => cell_alloc hcell o
  have h1 : (n : Int) - 1 < 4 := by omega
  have h2 : ¬ (4 : Int) < (n : Int) - 1 := by omega
  go_enter Tryd.func24, Tryd.ntmps24
  go_wp2_with (first | (go_at_call 56; refine (fixed_calls 3 4 _ (by simp)).mono ?_; rintro e w1 ⟨rfl, rfl⟩))
  refine bodyPost_ret (v := .tuple #[.agg (opCs 0 0 0 0 0 0 nilS nilS), .int .i64 2]) (by simp [results, Tryd.results24, go_sem, opCs]) rfl ?_
  exact ⟨nilS, nilS, rfl, World.ownsRow_nil _ _ _ _, World.ownsRow_nil _ _ _ _, ((Below.refl _ _).alloc (Nat.le_refl _) _).alloc (by simp) _⟩

set_option maxRecDepth 100000 in
set_option maxHeartbeats 4000000 in
theorem rdec_long3 (A : Option Addr) (n cap : Nat) (w : World) (h0 : 0 < n) (hc : ∃ ad, A = some ad ∧ ad.block < w.heap.size ∧ w.cell? ad = some (.int .i64 3)) (hn : n ≤ 17592186044416) (hs : 5 < n) : Calls Tryd.prog 24 #[.slice A n cap] w (RefDecTo w (OpM.zero, 3)) := by
  obtain ⟨ad, rfl, hb, hcell⟩ := hc
  have hn0 : (0 : Int) < n := by omega
  have hw : IntKind.i64.wrap ((n : Int) - 1) = (n : Int) - 1 := by rw [IntKind.wrap_i64]; omega
  have hn1 : ¬ (n : Int) - 1 < 0 := by omega
  have hcell' := fun o => cell_alloc hcell o
  have h2 : (4 : Int) < (n : Int) - 1 := by omega
  go_enter Tryd.func24, Tryd.ntmps24
  go_wp2_with (first | (go_at_call 56; refine (fixed_calls 3 4 _ (by simp)).mono ?_; rintro e w1 ⟨rfl, rfl⟩))
  refine bodyPost_ret (v := .tuple #[.agg (opCs 0 0 0 0 0 0 nilS nilS), .int .i64 3]) (by simp [results, Tryd.results24, go_sem, opCs]) rfl ?_
  exact ⟨nilS, nilS, rfl, World.ownsRow_nil _ _ _ _, World.ownsRow_nil _ _ _ _, ((Below.refl _ _).alloc (Nat.le_refl _) _).alloc (by simp) _⟩

set_option maxRecDepth 100000 in
set_option maxHeartbeats 4000000 in
theorem rdec_ok3 (A : Option Addr) (x y z m : Int) (cap : Nat) (w : World) (hr : Reads w w.heap.size 1 A 5 (intsC [3, x, y, z, m])) (hcap : 5 ≤ cap) : Calls Tryd.prog 24 #[.slice A 5 cap] w (RefDecTo w (⟨3, x, y, z, m, 0, [], []⟩, 0)) := by
  obtain ⟨ad, rfl, hb, hcell⟩ := hr.2 (by omega)
  have c0 : w.cell? ad = some (.int .i64 3) := by have := hcell 0 _ rfl; simpa [Addr.add] using this
  have c1 : w.cell? ⟨ad.block, ad.off + 1, none⟩ = some (.int .i64 x) := by have := hcell 1 _ rfl; simpa [Addr.add] using this
  have c2 : w.cell? ⟨ad.block, ad.off + 2, none⟩ = some (.int .i64 y) := by have := hcell 2 _ rfl; simpa [Addr.add] using this
  have c3 : w.cell? ⟨ad.block, ad.off + 3, none⟩ = some (.int .i64 z) := by have := hcell 3 _ rfl; simpa [Addr.add] using this
  have c4 : w.cell? ⟨ad.block, ad.off + 4, none⟩ = some (.int .i64 m) := by have := hcell 4 _ rfl; simpa [Addr.add] using this
  have hcell0 := fun o => cell_alloc c0 o
  go_enter Tryd.func24, Tryd.ntmps24
  go_wp2_with (first | (go_at_call 56; refine (fixed_calls 3 4 _ (by simp)).mono ?_; rintro e w1 ⟨rfl, rfl⟩))
  refine bodyPost_ret (v := .tuple #[.agg (opCs 3 x y z m 0 nilS nilS), .int .i64 0]) (by simp [results, Tryd.results24, go_sem, opCs]) rfl ?_
  exact ⟨nilS, nilS, rfl, World.ownsRow_nil _ _ _ _, World.ownsRow_nil _ _ _ _, ((Below.refl _ _).alloc (Nat.le_refl _) _).alloc (by simp) _⟩

set_option maxRecDepth 100000 in
set_option maxHeartbeats 4000000 in
theorem rdec_short4 (A : Option Addr) (n cap : Nat) (w : World) (h0 : 0 < n) (hc : ∃ ad, A = some ad ∧ ad.block < w.heap.size ∧ w.cell? ad = some (.int .i64 4)) (hn : n ≤ 17592186044416) (hs : n < 5) : Calls Tryd.prog 24 #[.slice A n cap] w (RefDecTo w (OpM.zero, 2)) := by
  obtain ⟨ad, rfl, hb, hcell⟩ := hc
  have hn0 : (0 : Int) < n := by omega
  have hw : IntKind.i64.wrap ((n : Int) - 1) = (n : Int) - 1 := by rw [IntKind.wrap_i64]; omega
  have hn1 : ¬ (n : Int) - 1 < 0 := by omega
  have hcell' := fun o => cell_alloc hcell o
  have h1 : (n : Int) - 1 < 4 := by omega
  have h2 : ¬ (4 : Int) < (n : Int) - 1 := by omega
  go_enter Tryd.func24, Tryd.ntmps24
  go_wp2_with (first | (go_at_call 56; refine (fixed_calls 4 4 _ (by simp)).mono ?_; rintro e w1 ⟨rfl, rfl⟩))
  refine bodyPost_ret (v := .tuple #[.agg (opCs 0 0 0 0 0 0 nilS nilS), .int .i64 2]) (by simp [results, Tryd.results24, go_sem, opCs]) rfl ?_
  exact ⟨nilS, nilS, rfl, World.ownsRow_nil _ _ _ _, World.ownsRow_nil _ _ _ _, ((Below.refl _ _).alloc (Nat.le_refl _) _).alloc (by simp) _⟩

set_option maxRecDepth 100000 in
set_option maxHeartbeats 4000000 in
theorem rdec_long4 (A : Option Addr) (n cap : Nat) (w : World) (h0 : 0 < n) (hc : ∃ ad, A = some ad ∧ ad.block < w.heap.size ∧ w.cell? ad = some (.int .i64 4)) (hn : n ≤ 17592186044416) (hs : 5 < n) : Calls Tryd.prog 24 #[.slice A n cap] w (RefDecTo w (OpM.zero, 3)) := by
  obtain ⟨ad, rfl, hb, hcell⟩ := hc
  have hn0 : (0 : Int) < n := by omega
  have hw : IntKind.i64.wrap ((n : Int) - 1) = (n : Int) - 1 := by rw [IntKind.wrap_i64]; omega
  have hn1 : ¬ (n : Int) - 1 < 0 := by omega
  have hcell' := fun o => cell_alloc hcell o
  have h2 : (4 : Int) < (n : Int) - 1 := by omega
  go_enter Tryd.func24, Tryd.ntmps24
  go_wp2_with (first | (go_at_call 56; refine (fixed_calls 4 4 _ (by simp)).mono ?_; rintro e w1 ⟨rfl, rfl⟩))
  refine bodyPost_ret (v := .tuple #[.agg (opCs 0 0 0 0 0 0 nilS nilS), .int .i64 3]) (by simp [results, Tryd.results24, go_sem, opCs]) rfl ?_
  exact ⟨nilS, nilS, rfl, World.ownsRow_nil _ _ _ _, World.ownsRow_nil _ _ _ _, ((Below.refl _ _).alloc (Nat.le_refl _) _).alloc (by simp) _⟩

set_option maxRecDepth 100000 in
set_option maxHeartbeats 4000000 in
theorem rdec_ok4 (A : Option Addr) (x y z m : Int) (cap : Nat) (w : World) (hr : Reads w w.heap.size 1 A 5 (intsC [4, x, y, z, m])) (hcap : 5 ≤ cap) : Calls Tryd.prog 24 #[.slice A 5 cap] w (RefDecTo w (⟨4, x, y, z, m, 0, [], []⟩, 0)) := by
  obtain ⟨ad, rfl, hb, hcell⟩ := hr.2 (by omega)
  have c0 : w.cell? ad = some (.int .i64 4) := by have := hcell 0 _ rfl; simpa [Addr.add] using this
  have c1 : w.cell? ⟨ad.block, ad.off + 1, none⟩ = some (.int .i64 x) := by have := hcell 1 _ rfl; simpa [Addr.add] using this
  have c2 : w.cell? ⟨ad.block, ad.off + 2, none⟩ = some (.int .i64 y) := by have := hcell 2 _ rfl; simpa [Addr.add] using this
  have c3 : w.cell? ⟨ad.block, ad.off + 3, none⟩ = some (.int .i64 z) := by have := hcell 3 _ rfl; simpa [Addr.add] using this
  have c4 : w.cell? ⟨ad.block, ad.off + 4, none⟩ = some (.int .i64 m) := by have := hcell 4 _ rfl; simpa [Addr.add] using this
  have hcell0 := fun o => cell_alloc c0 o
  go_enter Tryd.func24, Tryd.ntmps24
  go_wp2_with (first | (go_at_call 56; refine (fixed_calls 4 4 _ (by simp)).mono ?_; rintro e w1 ⟨rfl, rfl⟩))
  refine bodyPost_ret (v := .tuple #[.agg (opCs 4 x y z m 0 nilS nilS), .int .i64 0]) (by simp [results, Tryd.results24, go_sem, opCs]) rfl ?_
  exact ⟨nilS, nilS, rfl, World.ownsRow_nil _ _ _ _, World.ownsRow_nil _ _ _ _, ((Below.refl _ _).alloc (Nat.le_refl _) _).alloc (by simp) _⟩

set_option maxRecDepth 100000 in
set_option maxHeartbeats 4000000 in
theorem rdec_short6 (A : Option Addr) (n cap : Nat) (w : World) (h0 : 0 < n) (hc : ∃ ad, A = some ad ∧ ad.block < w.heap.size ∧ w.cell? ad = some (.int .i64 6)) (hn : n ≤ 17592186044416) (hs : n < 2) : Calls Tryd.prog 24 #[.slice A n cap] w (RefDecTo w (OpM.zero, 2)) := by
  obtain ⟨ad, rfl, hb, hcell⟩ := hc
  have hn0 : (0 : Int) < n := by omega
  have hw : IntKind.i64.wrap ((n : Int) - 1) = (n : Int) - 1 := by rw [IntKind.wrap_i64]; omega
  have hn1 : ¬ (n : Int) - 1 < 0 := by omega
  have hcell' := fun o => cell_alloc hcell o
  have h1 : (n : Int) - 1 < 1 := by omega
  have h2 : ¬ (1 : Int) < (n : Int) - 1 := by omega
  go_enter Tryd.func24, Tryd.ntmps24
  go_wp2_with (first | (go_at_call 56; refine (fixed_calls 6 1 _ (by simp)).mono ?_; rintro e w1 ⟨rfl, rfl⟩))
  refine bodyPost_ret (v := .tuple #[.agg (opCs 0 0 0 0 0 0 nilS nilS), .int .i64 2]) (by simp [results, Tryd.results24, go_sem, opCs]) rfl ?_
  exact ⟨nilS, nilS, rfl, World.ownsRow_nil _ _ _ _, World.ownsRow_nil _ _ _ _, ((Below.refl _ _).alloc (Nat.le_refl _) _).alloc (by simp) _⟩

set_option maxRecDepth 100000 in
set_option maxHeartbeats 4000000 in
theorem rdec_long6 (A : Option Addr) (n cap : Nat) (w : World) (h0 : 0 < n) (hc : ∃ ad, A = some ad ∧ ad.block < w.heap.size ∧ w.cell? ad = some (.int .i64 6)) (hn : n ≤ 17592186044416) (hs : 2 < n) : Calls Tryd.prog 24 #[.slice A n cap] w (RefDecTo w (OpM.zero, 3)) := by
  obtain ⟨ad, rfl, hb, hcell⟩ := hc
  have hn0 : (0 : Int) < n := by omega
  have hw : IntKind.i64.wrap ((n : Int) - 1) = (n : Int) - 1 := by rw [IntKind.wrap_i64]; omega
  have hn1 : ¬ (n : Int) - 1 < 0 := by omega
  have hcell' := fun o => cell_alloc hcell o
  have h2 : (1 : Int) < (n : Int) - 1 := by omega
  go_enter Tryd.func24, Tryd.ntmps24
  go_wp2_with (first | (go_at_call 56; refine (fixed_calls 6 1 _ (by simp)).mono ?_; rintro e w1 ⟨rfl, rfl⟩))
  refine bodyPost_ret (v := .tuple #[.agg (opCs 0 0 0 0 0 0 nilS nilS), .int .i64 3]) (by simp [results, Tryd.results24, go_sem, opCs]) rfl ?_
  exact ⟨nilS, nilS, rfl, World.ownsRow_nil _ _ _ _, World.ownsRow_nil _ _ _ _, ((Below.refl _ _).alloc (Nat.le_refl _) _).alloc (by simp) _⟩

set_option maxRecDepth 100000 in
set_option maxHeartbeats 4000000 in
theorem rdec_ok6 (A : Option Addr) (x : Int) (cap : Nat) (w : World) (hr : Reads w w.heap.size 1 A 2 (intsC [6, x])) (hcap : 2 ≤ cap) : Calls Tryd.prog 24 #[.slice A 2 cap] w (RefDecTo w (⟨6, 0, 0, 0, 0, x, [], []⟩, 0)) := by
  obtain ⟨ad, rfl, hb, hcell⟩ := hr.2 (by omega)
  have c0 : w.cell? ad = some (.int .i64 6) := by have := hcell 0 _ rfl; simpa [Addr.add] using this
  have c1 : w.cell? ⟨ad.block, ad.off + 1, none⟩ = some (.int .i64 x) := by have := hcell 1 _ rfl; simpa [Addr.add] using this
  have hcell0 := fun o => cell_alloc c0 o
  go_enter Tryd.func24, Tryd.ntmps24
  go_wp2_with (first | (go_at_call 56; refine (fixed_calls 6 1 _ (by simp)).mono ?_; rintro e w1 ⟨rfl, rfl⟩))
  refine bodyPost_ret (v := .tuple #[.agg (opCs 6 0 0 0 0 x nilS nilS), .int .i64 0]) (by simp [results, Tryd.results24, go_sem, opCs]) rfl ?_
  exact ⟨nilS, nilS, rfl, World.ownsRow_nil _ _ _ _, World.ownsRow_nil _ _ _ _, ((Below.refl _ _).alloc (Nat.le_refl _) _).alloc (by simp) _⟩

set_option maxRecDepth 100000 in
set_option maxHeartbeats 4000000 in
theorem rdec_short7 (A : Option Addr) (n cap : Nat) (w : World) (h0 : 0 < n) (hc : ∃ ad, A = some ad ∧ ad.block < w.heap.size ∧ w.cell? ad = some (.int .i64 7)) (hn : n ≤ 17592186044416) (hs : n < 2) : Calls Tryd.prog 24 #[.slice A n cap] w (RefDecTo w (OpM.zero, 2)) := by
  obtain ⟨ad, rfl, hb, hcell⟩ := hc
  have hn0 : (0 : Int) < n := by omega
  have hw : IntKind.i64.wrap ((n : Int) - 1) = (n : Int) - 1 := by rw [IntKind.wrap_i64]; omega
  have hn1 : ¬ (n : Int) - 1 < 0 := by omega
  have hcell' := fun o => cell_alloc hcell o
  have h1 : (n : Int) - 1 < 1 := by omega
  have h2 : ¬ (1 : Int) < (n : Int) - 1 := by omega
  go_enter Tryd.func24, Tryd.ntmps24
  go_wp2_with (first | (go_at_call 56; refine (fixed_calls 7 1 _ (by simp)).mono ?_; rintro e w1 ⟨rfl, rfl⟩))
  refine bodyPost_ret (v := .tuple #[.agg (opCs 0 0 0 0 0 0 nilS nilS), .int .i64 2]) (by simp [results, Tryd.results24, go_sem, opCs]) rfl ?_
  exact ⟨nilS, nilS, rfl, World.ownsRow_nil _ _ _ _, World.ownsRow_nil _ _ _ _, ((Below.refl _ _).alloc (Nat.le_refl _) _).alloc (by simp) _⟩

set_option maxRecDepth 100000 in
set_option maxHeartbeats 4000000 in
theorem rdec_long7 (A : Option Addr) (n cap : Nat) (w : World) (h0 : 0 < n) (hc : ∃ ad, A = some ad ∧ ad.block < w.heap.size ∧ w.cell? ad = some (.int .i64 7)) (hn : n ≤ 17592186044416) (hs : 2 < n) : Calls Tryd.prog 24 #[.slice A n cap] w (RefDecTo w (OpM.zero, 3)) := by
  obtain ⟨ad, rfl, hb, hcell⟩ := hc
  have hn0 : (0 : Int) < n := by omega
  have hw : IntKind.i64.wrap ((n : Int) - 1) = (n : Int) - 1 := by rw [IntKind.wrap_i64]; omega
  have hn1 : ¬ (n : Int) - 1 < 0 := by omega
  have hcell' := fun o => cell_alloc hcell o
  have h2 : (1 : Int) < (n : Int) - 1 := by omega
  go_enter Tryd.func24, Tryd.ntmps24
  go_wp2_with (first | (go_at_call 56; refine (fixed_calls 7 1 _ (by simp)).mono ?_; rintro e w1 ⟨rfl, rfl⟩))
  refine bodyPost_ret (v := .tuple #[.agg (opCs 0 0 0 0 0 0 nilS nilS), .int .i64 3]) (by simp [results, Tryd.results24, go_sem, opCs]) rfl ?_
  exact ⟨nilS, nilS, rfl, World.ownsRow_nil _ _ _ _, World.ownsRow_nil _ _ _ _, ((Below.refl _ _).alloc (Nat.le_refl _) _).alloc (by simp) _⟩

set_option maxRecDepth 100000 in
set_option maxHeartbeats 4000000 in
theorem rdec_ok7 (A : Option Addr) (x : Int) (cap : Nat) (w : World) (hr : Reads w w.heap.size 1 A 2 (intsC [7, x])) (hcap : 2 ≤ cap) : Calls Tryd.prog 24 #[.slice A 2 cap] w (RefDecTo w (⟨7, 0, 0, 0, 0, x, [], []⟩, 0)) := by
  obtain ⟨ad, rfl, hb, hcell⟩ := hr.2 (by omega)
  have c0 : w.cell? ad = some (.int .i64 7) := by have := hcell 0 _ rfl; simpa [Addr.add] using this
  have c1 : w.cell? ⟨ad.block, ad.off + 1, none⟩ = some (.int .i64 x) := by have := hcell 1 _ rfl; simpa [Addr.add] using this
  have hcell0 := fun o => cell_alloc c0 o
  go_enter Tryd.func24, Tryd.ntmps24
  go_wp2_with (first | (go_at_call 56; refine (fixed_calls 7 1 _ (by simp)).mono ?_; rintro e w1 ⟨rfl, rfl⟩))
  refine bodyPost_ret (v := .tuple #[.agg (opCs 7 0 0 0 0 x nilS nilS), .int .i64 0]) (by simp [results, Tryd.results24, go_sem, opCs]) rfl ?_
  exact ⟨nilS, nilS, rfl, World.ownsRow_nil _ _ _ _, World.ownsRow_nil _ _ _ _, ((Below.refl _ _).alloc (Nat.le_refl _) _).alloc (by simp) _⟩

set_option maxRecDepth 100000 in
set_option maxHeartbeats 4000000 in
theorem rdec_short5 (A : Option Addr) (n cap : Nat) (w : World) (h0 : 0 < n) (hc : ∃ ad, A = some ad ∧ ad.block < w.heap.size ∧ w.cell? ad = some (.int .i64 5)) (hn : n ≤ 17592186044416) (hs : ((n : Int) - 1) % 5 ≠ 1) : Calls Tryd.prog 24 #[.slice A n cap] w (RefDecTo w (OpM.zero, 2)) := by
  obtain ⟨ad, rfl, hb, hcell⟩ := hc
  have hn0 : (0 : Int) < n := by omega
  have hw : IntKind.i64.wrap ((n : Int) - 1) = (n : Int) - 1 := by rw [IntKind.wrap_i64]; omega
  have hn1 : ¬ (n : Int) - 1 < 0 := by omega
  have hcell' := fun o => cell_alloc hcell o
  have h2 : (((n : Int) - 1) % 5 == 1) = false := beq_eq_false_iff_ne.2 hs
  have h1 : (((n : Int) - 1) % 5 != 1) = true := by simp only [bne, h2, Bool.not_false]
  go_enter Tryd.func24, Tryd.ntmps24
  go_wp2_with (first | (go_at_call 56; refine (fixed_calls 5 (-1) _ (by simp)).mono ?_; rintro e w1 ⟨rfl, rfl⟩))
  refine bodyPost_ret (v := .tuple #[.agg (opCs 0 0 0 0 0 0 nilS nilS), .int .i64 2]) (by simp [results, Tryd.results24, go_sem, opCs]) rfl ?_
  exact ⟨nilS, nilS, rfl, World.ownsRow_nil _ _ _ _, World.ownsRow_nil _ _ _ _, ((Below.refl _ _).alloc (Nat.le_refl _) _).alloc (by simp) _⟩

set_option maxRecDepth 100000 in
set_option maxHeartbeats 4000000 in
theorem rdec_short8 (A : Option Addr) (n cap : Nat) (w : World) (h0 : 0 < n) (hc : ∃ ad, A = some ad ∧ ad.block < w.heap.size ∧ w.cell? ad = some (.int .i64 8)) (hn : n ≤ 17592186044416) (hs : ((n : Int) - 1) % 2 ≠ 0) : Calls Tryd.prog 24 #[.slice A n cap] w (RefDecTo w (OpM.zero, 2)) := by
  obtain ⟨ad, rfl, hb, hcell⟩ := hc
  have hn0 : (0 : Int) < n := by omega
  have hw : IntKind.i64.wrap ((n : Int) - 1) = (n : Int) - 1 := by rw [IntKind.wrap_i64]; omega
  have hn1 : ¬ (n : Int) - 1 < 0 := by omega
  have hcell' := fun o => cell_alloc hcell o
  have h2 : (((n : Int) - 1) % 2 == 0) = false := beq_eq_false_iff_ne.2 hs
  have h1 : (((n : Int) - 1) % 2 != 0) = true := by simp only [bne, h2, Bool.not_false]
  go_enter Tryd.func24, Tryd.ntmps24
  go_wp2_with (first | (go_at_call 56; refine (fixed_calls 8 (-1) _ (by simp)).mono ?_; rintro e w1 ⟨rfl, rfl⟩))
  refine bodyPost_ret (v := .tuple #[.agg (opCs 0 0 0 0 0 0 nilS nilS), .int .i64 2]) (by simp [results, Tryd.results24, go_sem, opCs]) rfl ?_
  exact ⟨nilS, nilS, rfl, World.ownsRow_nil _ _ _ _, World.ownsRow_nil _ _ _ _, ((Below.refl _ _).alloc (Nat.le_refl _) _).alloc (by simp) _⟩

end Go.Proofs.YtmdkcggmnejkoaaDoor
