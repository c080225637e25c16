/- custodyref16.Decode by contracts: the rows of legs and of pairs (printed by gen_refdec2.py). -/
import Derived.Test.YtmdkcggmnejkoaaDoorRefDec
import Derived.Test.YtmdkcggmnejkoaaDoorWLast
import Derived.Deep.RegionHeld3
namespace Go.Proofs.YtmdkcggmnejkoaaDoor
set_option linter.unusedSimpArgs false
set_option linter.unusedVariables false
open Go.RowKit Go.Proofs.YtmdkcggmnejkoaaDoorW.PrintLast

theorem flat_nth {α β : Type} {f : α → List β} {s : Nat} (hs : ∀ x, (f x).length = s) (xs : List α) (k j : Nat) (hj : j < s) (hk : k < xs.length) : (xs.flatMap f)[k * s + j]? = (f xs[k])[j]? := by
  induction xs generalizing k with
  | nil => simp at hk
  | cons x xs ih =>
    cases k with
    | zero => rw [List.flatMap_cons, Nat.zero_mul, Nat.zero_add, List.getElem?_append_left (by rw [hs]; exact hj)]; rfl
    | succ k =>
      rw [List.flatMap_cons, List.getElem?_append_right (by rw [hs, Nat.add_mul]; omega), hs, show (k + 1) * s + j - s = k * s + j by rw [Nat.add_mul]; omega, ih k (by simpa using hk)]
      rfl
theorem raw_at {α : Type} {w : World} {ad : Addr} {f : α → List Int} {s : Nat} {pre : List Int} {ls : List α} {i k : Nat} (hc : ∀ j u, (intsC (pre ++ ls.flatMap f))[j]? = some u → w.cell? (ad.add j) = some u) (hs : ∀ x, (f x).length = s)
    (hi : i = k * s + pre.length) (hk : k < ls.length) (j : Nat) (hj : j < s) {y : Int} (hy : (f ls[k])[j]? = some y) : w.cell? (ad.add (i + j)) = some (.int .i64 y) := by
  refine hc _ _ ?_
  rw [ints_get, List.getElem?_append_right (by omega), show i + j - pre.length = k * s + j by omega, flat_nth hs ls k j hj hk, hy]
  rfl

set_option maxRecDepth 100000 in
set_option maxHeartbeats 8000000 in
theorem rdec_ok5 (A : Option Addr) (x : Int) (ls : List Leg) (n cap : Nat) (w : World) (hr : Reads w w.heap.size 1 A n (intsC (5 :: x :: ls.flatMap (fun x => [x.f, x.t, x.a, x.q, x.n])))) (hnl : n = ls.length * 5 + 2) (hcap : n ≤ cap) (hn : n ≤ 17592186044416) :
    Calls Tryd.prog 24 #[.slice A n cap] w (RefDecTo w (⟨5, 0, 0, 0, 0, x, ls, []⟩, 0)) := by
  obtain ⟨i0, hi0, hz0, hz1, hz2⟩ := info_parts infoLegs
  obtain ⟨ad, rfl, hb, hcell⟩ := hr.2 (by omega)
  have c0 : w.cell? ad = some (.int .i64 5) := by have := hcell 0 _ rfl; simpa [Addr.add] using this
  have c1 : w.cell? ⟨ad.block, ad.off + 1, none⟩ = some (.int .i64 x) := by have := hcell 1 _ rfl; simpa [Addr.add] using this
  have hcell1 := fun o o' => cell_alloc (cell_alloc c1 o) o'
  have hn3 : (1 : Int) < n := by omega
  have hcell0 := fun o => cell_alloc c0 o
  have hn0 : (0 : Int) < n := by omega
  have hw : IntKind.i64.wrap ((n : Int) - 1) = (n : Int) - 1 := by rw [IntKind.wrap_i64]; omega
  have hn1 : ¬ (n : Int) - 1 < 0 := by omega
  have h2 : (((n : Int) - 1) % 5 == 1) = true := beq_iff_eq.2 (by omega)
  have h1 : (((n : Int) - 1) % 5 != 1) = false := by simp only [bne, h2, Bool.not_true]
  have HC := Lib.hid hcell
  have HNL := Lib.hid hnl
  clear hcell hnl hr
  obtain ⟨g, hg⟩ : ∃ g, w.heap.size = g := ⟨_, rfl⟩
  go_enter Tryd.func24, Tryd.ntmps24
  go_wp2_with (first | (go_at_call 56; refine (fixed_calls 5 (-1) _ (by simp)).mono ?_; rintro e w1 ⟨rfl, rfl⟩))
  obtain ⟨W0, hW0⟩ : ∃ W0, (w.alloc (.cells #[.int .i64 0, .int .i64 0, .int .i64 0, .int .i64 0, .int .i64 0, .int .i64 0, .slice none 0 0, .slice none 0 0] 33)).alloc (.cells (opCs 5 0 0 0 0 x nilS nilS) 33) = W0 := ⟨_, rfl⟩
  have bz : Blk W0 g 33 #[.int .i64 0, .int .i64 0, .int .i64 0, .int .i64 0, .int .i64 0, .int .i64 0, .slice none 0 0, .slice none 0 0] := by rw [← hW0, ← hg]; exact (Blk.new _ _ _).alloc _
  have bo : Blk W0 (g + 1) 33 (opCs 5 0 0 0 0 x nilS nilS) := by rw [← hW0, ← hg]; have h := Blk.new (w.alloc (.cells #[.int .i64 0, .int .i64 0, .int .i64 0, .int .i64 0, .int .i64 0, .int .i64 0, .slice none 0 0, .slice none 0 0] 33)) 33 (opCs 5 0 0 0 0 x nilS nilS); simpa using h
  have B0 : Below w.heap.size w W0 := hW0 ▸ ((Below.refl _ _).alloc (Nat.le_refl _) _).alloc (by simp) _
  simp only [opCs] at hW0
  rw [hW0]
  clear hW0 hcell0 hcell1 c0 c1
  go_loopw [8] (fun j wr => ∃ (k i : Nat) (v : Value), k ≤ ls.length ∧ i = k * 5 + 2 ∧ j = .int .i64 (i : Nat) ∧ Blk wr g 33 #[.int .i64 0, .int .i64 0, .int .i64 0, .int .i64 0, .int .i64 0, .int .i64 0, .slice none 0 0, .slice none 0 0] ∧ Blk wr (g + 1) 33 (opCs 5 0 0 0 0 x v nilS) ∧ wr.ownsRow w.heap.size 45 5 v k (legsC (ls.take k)) ∧ Below w.heap.size w wr) (fun j _ => n + 1 - (intOf j).toNat)
  case atStart => exact ⟨0, 2, nilS, Nat.zero_le _, by omega, rfl, bz, bo, World.ownsRow_nil _ _ _ _, B0⟩
  case round =>
    clear bz bo B0
    obtain ⟨k, i, v, hk, hik, rfl, bz, bo, hown, B⟩ := hrel
    have HNL2 := HNL.out
    by_cases hlt : k < ls.length
    · have hin : (i : Int) < n := by omega
      have hi0' : (0 : Int) ≤ i := by omega
      have w1 : IntKind.i64.wrap ((i : Int) + 1) = (i : Int) + 1 := by rw [IntKind.wrap_i64]; omega
      have l1 : (i : Int) + 1 < n := by omega
      have m1 : (0 : Int) ≤ (i : Int) + 1 := by omega
      have w2 : IntKind.i64.wrap ((i : Int) + 2) = (i : Int) + 2 := by rw [IntKind.wrap_i64]; omega
      have l2 : (i : Int) + 2 < n := by omega
      have m2 : (0 : Int) ≤ (i : Int) + 2 := by omega
      have w3 : IntKind.i64.wrap ((i : Int) + 3) = (i : Int) + 3 := by rw [IntKind.wrap_i64]; omega
      have l3 : (i : Int) + 3 < n := by omega
      have m3 : (0 : Int) ≤ (i : Int) + 3 := by omega
      have w4 : IntKind.i64.wrap ((i : Int) + 4) = (i : Int) + 4 := by rw [IntKind.wrap_i64]; omega
      have l4 : (i : Int) + 4 < n := by omega
      have m4 : (0 : Int) ≤ (i : Int) + 4 := by omega
      have w5 : IntKind.i64.wrap ((i : Int) + 5) = (i : Int) + 5 := by rw [IntKind.wrap_i64]; omega
      have htk : ls.take (k + 1) = ls.take k ++ [ls[k]] := by rw [List.take_succ_eq_append_getElem hlt]
      have p0 : wr.cell? (ad.add i) = some (.int .i64 ls[k].f) := by have h := raw_at (pre := [5, x]) HC.out (fun _ => rfl) hik hlt 0 (by decide) rfl; rw [Nat.add_zero] at h; exact cell_below B h
      have p1 : wr.cell? ⟨ad.block, ad.off + (i + 1), none⟩ = some (.int .i64 ls[k].t) := by have h := cell_below B (raw_at (pre := [5, x]) HC.out (fun _ => rfl) hik hlt 1 (by decide) rfl); simpa [Addr.add] using h
      have t1 : ((i : Int) + 1).toNat = i + 1 := by omega
      have p2 : wr.cell? ⟨ad.block, ad.off + (i + 2), none⟩ = some (.int .i64 ls[k].a) := by have h := cell_below B (raw_at (pre := [5, x]) HC.out (fun _ => rfl) hik hlt 2 (by decide) rfl); simpa [Addr.add] using h
      have t2 : ((i : Int) + 2).toNat = i + 2 := by omega
      have p3 : wr.cell? ⟨ad.block, ad.off + (i + 3), none⟩ = some (.int .i64 ls[k].q) := by have h := cell_below B (raw_at (pre := [5, x]) HC.out (fun _ => rfl) hik hlt 3 (by decide) rfl); simpa [Addr.add] using h
      have t3 : ((i : Int) + 3).toNat = i + 3 := by omega
      have p4 : wr.cell? ⟨ad.block, ad.off + (i + 4), none⟩ = some (.int .i64 ls[k].n) := by have h := cell_below B (raw_at (pre := [5, x]) HC.out (fun _ => rfl) hik hlt 4 (by decide) rfl); simpa [Addr.add] using h
      have t4 : ((i : Int) + 4).toNat = i + 4 := by omega
      generalize hx : ls[k] = y at htk p0 p1 p2 p3 p4
      have HTK := Lib.hid htk
      have HX := Lib.hid hx
      clear htk hx
      have hv : wr.cell? ⟨g + 1, 6, none⟩ = some v := bo.cell 6
      have hvf : wr.frozen? ⟨g + 1, 6, none⟩ = false := bo.frozen 6
      have hkm : k + 1 ≤ 17592186044416 := by omega
      have hkb : (k + 1) * 40 ≤ 140737488355328 := by omega
      have HIK := Lib.hid hik
      clear hik HNL2
      go_wp2_with (fail)
      have hfa : ∀ o, (wr.alloc o).frozen? ⟨g + 1, 6, none⟩ = false := fun o => (bo.alloc o).frozen 6
      have lo : g + 1 < wr.heap.size := bo.lt
      have lw : w.heap.size ≤ wr.heap.size := B.size
      have la : ad.block < wr.heap.size := by omega
      have ao : v.ownBlock ≠ some (g + 1) := own_blk_ne hown bo (by decide)
      have az : v.ownBlock ≠ some g := own_blk_ne hown bz (by decide)
      have aa : v.ownBlock ≠ some ad.block := fun hk => by have := own_base hown hk; omega
      have hmax : k + 1 ≤ maxLen := by simp only [maxLen]; omega
      have hby : (k + 1) * 40 ≤ 140737488355328 := hkb
      have hownd := hown
      refine start_ (n := 31) (S := fun w' => w'.cell? ⟨g + 1, 6, none⟩ = some v ∧ w'.cell? (ad.add i) = some (.int .i64 y.f) ∧ w'.cell? ⟨ad.block, ad.off + (i + 1), none⟩ = some (.int .i64 y.t) ∧ w'.cell? ⟨ad.block, ad.off + (i + 2), none⟩ = some (.int .i64 y.a) ∧ w'.cell? ⟨ad.block, ad.off + (i + 3), none⟩ = some (.int .i64 y.q) ∧ w'.cell? ⟨ad.block, ad.off + (i + 4), none⟩ = some (.int .i64 y.n)) (ds := [30]) #[false, false, false, false, false, false, false, false, false, false, false, false, false, false, false, false, false, false, false, false, false, false, false, false, false, false, false, false, false, false, false] (by kernel_rfl) rfl rfl ⟨hv, p0, p1, p2, p3, p4⟩ (fun hHeld => ?_)
      refine pure_ (i := 0) (N := some 95) (v := ?_) (a' := ?_) #[true, false, false, false, false, false, false, false, false, false, false, false, false, false, false, false, false, false, false, false, false, false, false, false, false, false, false, false, false, false, false] rfl rfl (by kernel_rfl) (fun _ _ _ h => h) (Or.inl ⟨by rfl, ?_⟩) ?_ ?_
      rotate_left
      · intro w'
        go_simp
        with_reducible rfl
      rotate_left
      · simp only [Act.put, List.setIfInBounds_toArray, List.set_cons_zero, List.set_cons_succ, i64_w, i32_w]
        rfl
      refine pure_ (i := 2) (N := some 97) (v := ?_) (a' := ?_) #[true, false, true, false, false, false, false, false, false, false, false, false, false, false, false, false, false, false, false, false, false, false, false, false, false, false, false, false, false, false, false] rfl rfl (by kernel_rfl) (fun _ _ _ h => h) (Or.inl ⟨by rfl, ?_⟩) ?_ ?_
      rotate_left
      · intro w'
        go_simp
        with_reducible rfl
      rotate_left
      · simp only [Act.put, List.setIfInBounds_toArray, List.set_cons_zero, List.set_cons_succ, i64_w, i32_w]
        rfl
      refine pure_ (i := 3) (N := some 98) (v := ?_) (a' := ?_) #[true, false, true, true, false, false, false, false, false, false, false, false, false, false, false, false, false, false, false, false, false, false, false, false, false, false, false, false, false, false, false] rfl rfl (by kernel_rfl) (fun _ _ _ h => h) (Or.inl ⟨by rfl, ?_⟩) ?_ ?_
      rotate_left
      · intro w'
        go_simp
        with_reducible rfl
      rotate_left
      · simp only [Act.put, List.setIfInBounds_toArray, List.set_cons_zero, List.set_cons_succ, i64_w, i32_w]
        rfl
      refine pure_ (i := 4) (N := some 99) (v := ?_) (a' := ?_) #[true, false, true, true, true, false, false, false, false, false, false, false, false, false, false, false, false, false, false, false, false, false, false, false, false, false, false, false, false, false, false] rfl rfl (by kernel_rfl) (fun _ _ _ h => h) (Or.inl ⟨by rfl, ?_⟩) ?_ ?_
      rotate_left
      · intro w'
        go_simp
        with_reducible rfl
      rotate_left
      · simp only [Act.put, List.setIfInBounds_toArray, List.set_cons_zero, List.set_cons_succ, i64_w, i32_w]
        rfl
      refine pure_ (i := 6) (N := some 101) (v := ?_) (a' := ?_) #[true, false, true, true, true, false, true, false, false, false, false, false, false, false, false, false, false, false, false, false, false, false, false, false, false, false, false, false, false, false, false] rfl rfl (by kernel_rfl) (fun _ _ _ h => h) (Or.inl ⟨by rfl, ?_⟩) ?_ ?_
      rotate_left
      · intro w'
        go_simp
        with_reducible rfl
      rotate_left
      · simp only [Act.put, List.setIfInBounds_toArray, List.set_cons_zero, List.set_cons_succ, i64_w, i32_w]
        rfl
      refine pure_ (i := 7) (N := some 102) (v := ?_) (a' := ?_) #[true, false, true, true, true, false, true, true, false, false, false, false, false, false, false, false, false, false, false, false, false, false, false, false, false, false, false, false, false, false, false] rfl rfl (by kernel_rfl) (fun _ _ _ h => h) (Or.inl ⟨by rfl, ?_⟩) ?_ ?_
      rotate_left
      · intro w'
        go_simp
        with_reducible rfl
      rotate_left
      · simp only [Act.put, List.setIfInBounds_toArray, List.set_cons_zero, List.set_cons_succ, i64_w, i32_w]
        rfl
      refine pure_ (i := 8) (N := some 103) (v := ?_) (a' := ?_) #[true, false, true, true, true, false, true, true, true, false, false, false, false, false, false, false, false, false, false, false, false, false, false, false, false, false, false, false, false, false, false] rfl rfl (by kernel_rfl) (fun _ _ _ h => h) (Or.inl ⟨by rfl, ?_⟩) ?_ ?_
      rotate_left
      · intro w'
        go_simp
        with_reducible rfl
      rotate_left
      · simp only [Act.put, List.setIfInBounds_toArray, List.set_cons_zero, List.set_cons_succ, i64_w, i32_w]
        rfl
      refine pure_ (i := 9) (N := some 104) (v := ?_) (a' := ?_) #[true, false, true, true, true, false, true, true, true, true, false, false, false, false, false, false, false, false, false, false, false, false, false, false, false, false, false, false, false, false, false] rfl rfl (by kernel_rfl) (fun _ _ _ h => h) (Or.inl ⟨by rfl, ?_⟩) ?_ ?_
      rotate_left
      · intro w'
        go_simp
        with_reducible rfl
      rotate_left
      · simp only [Act.put, List.setIfInBounds_toArray, List.set_cons_zero, List.set_cons_succ, i64_w, i32_w]
        rfl
      refine pure_ (i := 11) (N := some 106) (v := ?_) (a' := ?_) #[true, false, true, true, true, false, true, true, true, true, false, true, false, false, false, false, false, false, false, false, false, false, false, false, false, false, false, false, false, false, false] rfl rfl (by kernel_rfl) (fun _ _ _ h => h) (Or.inl ⟨by rfl, ?_⟩) ?_ ?_
      rotate_left
      · intro w'
        go_simp
        with_reducible rfl
      rotate_left
      · simp only [Act.put, List.setIfInBounds_toArray, List.set_cons_zero, List.set_cons_succ, i64_w, i32_w]
        rfl
      refine pure_ (i := 12) (N := some 107) (v := ?_) (a' := ?_) #[true, false, true, true, true, false, true, true, true, true, false, true, true, false, false, false, false, false, false, false, false, false, false, false, false, false, false, false, false, false, false] rfl rfl (by kernel_rfl) (fun _ _ _ h => h) (Or.inl ⟨by rfl, ?_⟩) ?_ ?_
      rotate_left
      · intro w'
        go_simp
        with_reducible rfl
      rotate_left
      · simp only [Act.put, List.setIfInBounds_toArray, List.set_cons_zero, List.set_cons_succ, i64_w, i32_w]
        rfl
      refine pure_ (i := 13) (N := some 108) (v := ?_) (a' := ?_) #[true, false, true, true, true, false, true, true, true, true, false, true, true, true, false, false, false, false, false, false, false, false, false, false, false, false, false, false, false, false, false] rfl rfl (by kernel_rfl) (fun _ _ _ h => h) (Or.inl ⟨by rfl, ?_⟩) ?_ ?_
      rotate_left
      · intro w'
        go_simp
        with_reducible rfl
      rotate_left
      · simp only [Act.put, List.setIfInBounds_toArray, List.set_cons_zero, List.set_cons_succ, i64_w, i32_w]
        rfl
      refine pure_ (i := 14) (N := some 109) (v := ?_) (a' := ?_) #[true, false, true, true, true, false, true, true, true, true, false, true, true, true, true, false, false, false, false, false, false, false, false, false, false, false, false, false, false, false, false] rfl rfl (by kernel_rfl) (fun _ _ _ h => h) (Or.inl ⟨by rfl, ?_⟩) ?_ ?_
      rotate_left
      · intro w'
        go_simp
        with_reducible rfl
      rotate_left
      · simp only [Act.put, List.setIfInBounds_toArray, List.set_cons_zero, List.set_cons_succ, i64_w, i32_w]
        rfl
      refine pure_ (i := 16) (N := some 111) (v := ?_) (a' := ?_) #[true, false, true, true, true, false, true, true, true, true, false, true, true, true, true, false, true, false, false, false, false, false, false, false, false, false, false, false, false, false, false] rfl rfl (by kernel_rfl) (fun _ _ _ h => h) (Or.inl ⟨by rfl, ?_⟩) ?_ ?_
      rotate_left
      · intro w'
        go_simp
        with_reducible rfl
      rotate_left
      · simp only [Act.put, List.setIfInBounds_toArray, List.set_cons_zero, List.set_cons_succ, i64_w, i32_w]
        rfl
      refine pure_ (i := 17) (N := some 112) (v := ?_) (a' := ?_) #[true, false, true, true, true, false, true, true, true, true, false, true, true, true, true, false, true, true, false, false, false, false, false, false, false, false, false, false, false, false, false] rfl rfl (by kernel_rfl) (fun _ _ _ h => h) (Or.inl ⟨by rfl, ?_⟩) ?_ ?_
      rotate_left
      · intro w'
        go_simp
        with_reducible rfl
      rotate_left
      · simp only [Act.put, List.setIfInBounds_toArray, List.set_cons_zero, List.set_cons_succ, i64_w, i32_w]
        rfl
      refine pure_ (i := 18) (N := some 113) (v := ?_) (a' := ?_) #[true, false, true, true, true, false, true, true, true, true, false, true, true, true, true, false, true, true, true, false, false, false, false, false, false, false, false, false, false, false, false] rfl rfl (by kernel_rfl) (fun _ _ _ h => h) (Or.inl ⟨by rfl, ?_⟩) ?_ ?_
      rotate_left
      · intro w'
        go_simp
        with_reducible rfl
      rotate_left
      · simp only [Act.put, List.setIfInBounds_toArray, List.set_cons_zero, List.set_cons_succ, i64_w, i32_w]
        rfl
      refine pure_ (i := 19) (N := some 114) (v := ?_) (a' := ?_) #[true, false, true, true, true, false, true, true, true, true, false, true, true, true, true, false, true, true, true, true, false, false, false, false, false, false, false, false, false, false, false] rfl rfl (by kernel_rfl) (fun _ _ _ h => h) (Or.inl ⟨by rfl, ?_⟩) ?_ ?_
      rotate_left
      · intro w'
        go_simp
        with_reducible rfl
      rotate_left
      · simp only [Act.put, List.setIfInBounds_toArray, List.set_cons_zero, List.set_cons_succ, i64_w, i32_w]
        rfl
      refine pure_ (i := 21) (N := some 116) (v := ?_) (a' := ?_) #[true, false, true, true, true, false, true, true, true, true, false, true, true, true, true, false, true, true, true, true, false, true, false, false, false, false, false, false, false, false, false] rfl rfl (by kernel_rfl) (fun _ _ _ h => h) (Or.inl ⟨by rfl, ?_⟩) ?_ ?_
      rotate_left
      · intro w'
        go_simp
        with_reducible rfl
      rotate_left
      · simp only [Act.put, List.setIfInBounds_toArray, List.set_cons_zero, List.set_cons_succ, i64_w, i32_w]
        rfl
      refine pure_ (i := 22) (N := some 117) (v := ?_) (a' := ?_) #[true, false, true, true, true, false, true, true, true, true, false, true, true, true, true, false, true, true, true, true, false, true, true, false, false, false, false, false, false, false, false] rfl rfl (by kernel_rfl) (fun _ _ _ h => h) (Or.inl ⟨by rfl, ?_⟩) ?_ ?_
      rotate_left
      · intro w'
        go_simp
        with_reducible rfl
      rotate_left
      · simp only [Act.put, List.setIfInBounds_toArray, List.set_cons_zero, List.set_cons_succ, i64_w, i32_w]
        rfl
      refine pure_ (i := 23) (N := some 118) (v := ?_) (a' := ?_) #[true, false, true, true, true, false, true, true, true, true, false, true, true, true, true, false, true, true, true, true, false, true, true, true, false, false, false, false, false, false, false] rfl rfl (by kernel_rfl) (fun _ _ _ h => h) (Or.inl ⟨by rfl, ?_⟩) ?_ ?_
      rotate_left
      · intro w'
        go_simp
        with_reducible rfl
      rotate_left
      · simp only [Act.put, List.setIfInBounds_toArray, List.set_cons_zero, List.set_cons_succ, i64_w, i32_w]
        rfl
      refine pure_ (i := 24) (N := some 119) (v := ?_) (a' := ?_) #[true, false, true, true, true, false, true, true, true, true, false, true, true, true, true, false, true, true, true, true, false, true, true, true, true, false, false, false, false, false, false] rfl rfl (by kernel_rfl) (fun _ _ _ h => h) (Or.inl ⟨by rfl, ?_⟩) ?_ ?_
      rotate_left
      · intro w'
        go_simp
        with_reducible rfl
      rotate_left
      · simp only [Act.put, List.setIfInBounds_toArray, List.set_cons_zero, List.set_cons_succ, i64_w, i32_w]
        rfl
      refine take_ (i := 1) (N := some 96) (v := ?_) (a' := ?_) #[true, true, true, true, true, false, true, true, true, true, false, true, true, true, true, false, true, true, true, true, false, true, true, true, true, false, false, false, false, false, false] rfl rfl (by kernel_rfl) (fun _ _ _ h => h) (Or.inl ⟨by rfl, ?_⟩) hHeld ?_ ?_
      rotate_left
      · rintro w' ⟨s0, s1, s2, s3, s4, s5⟩
        go_simp
        with_reducible rfl
      rotate_left
      · simp only [Act.put, List.setIfInBounds_toArray, List.set_cons_zero, List.set_cons_succ, i64_w, i32_w]
        rfl
      refine take_ (i := 5) (N := some 100) (v := ?_) (a' := ?_) #[true, true, true, true, true, true, true, true, true, true, false, true, true, true, true, false, true, true, true, true, false, true, true, true, true, false, false, false, false, false, false] rfl rfl (by kernel_rfl) (fun _ _ _ h => h) (Or.inl ⟨by rfl, ?_⟩) hHeld ?_ ?_
      rotate_left
      · rintro w' ⟨s0, s1, s2, s3, s4, s5⟩
        go_simp
        with_reducible rfl
      rotate_left
      · simp only [Act.put, List.setIfInBounds_toArray, List.set_cons_zero, List.set_cons_succ, i64_w, i32_w]
        rfl
      refine take_ (i := 10) (N := some 105) (v := ?_) (a' := ?_) #[true, true, true, true, true, true, true, true, true, true, true, true, true, true, true, false, true, true, true, true, false, true, true, true, true, false, false, false, false, false, false] rfl rfl (by kernel_rfl) (fun _ _ _ h => h) (Or.inl ⟨by rfl, ?_⟩) hHeld ?_ ?_
      rotate_left
      · rintro w' ⟨s0, s1, s2, s3, s4, s5⟩
        go_simp
        with_reducible rfl
      rotate_left
      · simp only [Act.put, List.setIfInBounds_toArray, List.set_cons_zero, List.set_cons_succ, i64_w, i32_w]
        rfl
      refine take_ (i := 15) (N := some 110) (v := ?_) (a' := ?_) #[true, true, true, true, true, true, true, true, true, true, true, true, true, true, true, true, true, true, true, true, false, true, true, true, true, false, false, false, false, false, false] rfl rfl (by kernel_rfl) (fun _ _ _ h => h) (Or.inl ⟨by rfl, ?_⟩) hHeld ?_ ?_
      rotate_left
      · rintro w' ⟨s0, s1, s2, s3, s4, s5⟩
        go_simp
        with_reducible rfl
      rotate_left
      · simp only [Act.put, List.setIfInBounds_toArray, List.set_cons_zero, List.set_cons_succ, i64_w, i32_w]
        rfl
      refine take_ (i := 20) (N := some 115) (v := ?_) (a' := ?_) #[true, true, true, true, true, true, true, true, true, true, true, true, true, true, true, true, true, true, true, true, true, true, true, true, true, false, false, false, false, false, false] rfl rfl (by kernel_rfl) (fun _ _ _ h => h) (Or.inl ⟨by rfl, ?_⟩) hHeld ?_ ?_
      rotate_left
      · rintro w' ⟨s0, s1, s2, s3, s4, s5⟩
        go_simp
        with_reducible rfl
      rotate_left
      · simp only [Act.put, List.setIfInBounds_toArray, List.set_cons_zero, List.set_cons_succ, i64_w, i32_w]
        rfl
      refine take_ (i := 25) (N := some 120) (v := ?_) (a' := ?_) #[true, true, true, true, true, true, true, true, true, true, true, true, true, true, true, true, true, true, true, true, true, true, true, true, true, true, false, false, false, false, false] rfl rfl (by kernel_rfl) (fun _ _ _ h => h) (Or.inl ⟨by rfl, ?_⟩) hHeld ?_ ?_
      rotate_left
      · rintro w' ⟨s0, s1, s2, s3, s4, s5⟩
        go_simp
        with_reducible rfl
      rotate_left
      · simp only [Act.put, List.setIfInBounds_toArray, List.set_cons_zero, List.set_cons_succ, i64_w, i32_w]
        rfl
      refine pure_ (i := 26) (N := some 121) (v := ?_) (a' := ?_) #[true, true, true, true, true, true, true, true, true, true, true, true, true, true, true, true, true, true, true, true, true, true, true, true, true, true, true, false, false, false, false] rfl rfl (by kernel_rfl) (fun _ _ _ h => h) (Or.inl ⟨by rfl, ?_⟩) ?_ ?_
      rotate_left
      · intro w'
        go_simp
        with_reducible rfl
      rotate_left
      · simp only [Act.put, List.setIfInBounds_toArray, List.set_cons_zero, List.set_cons_succ, i64_w, i32_w]
        rfl
      refine one_ (i := 27) (N := some 122) #[true, true, true, true, true, true, true, true, true, true, true, true, true, true, true, true, true, true, true, true, true, true, true, true, true, true, true, true, false, false, false] rfl rfl (by kernel_rfl) (by decide) (fun K hK => ?_)
      refine value_ (w1 := ?_) (v := ?_) (by rfl) rfl ?_ ?_
      rotate_left 2
      · go_simp
        constructor
        · rfl
        · rfl
      refine hK.out _ _ ⟨cell_alloc (w := wr.drew) hv _, cell_alloc (w := wr.drew) p0 _, cell_alloc (w := wr.drew) p1 _, cell_alloc (w := wr.drew) p2 _, cell_alloc (w := wr.drew) p3 _, cell_alloc (w := wr.drew) p4 _⟩ (fun hHeld => ?_)
      clear hK K
      refine norm_ (a' := ?_) ?_ ?_
      rotate_left
      · show Act.put _ (some 122) _ = _
        simp only [Act.put, List.setIfInBounds_toArray, List.set_cons_zero, List.set_cons_succ, i64_w, i32_w]
        rfl
      refine one_ (i := 28) (N := some 123) #[true, true, true, true, true, true, true, true, true, true, true, true, true, true, true, true, true, true, true, true, true, true, true, true, true, true, true, true, true, false, false] rfl rfl (by kernel_rfl) (by decide) (fun K hK => ?_)
      refine step_append_lies _ (by rfl) _ _ _ (by rfl) w.heap.size 45 i0 _ 5 40 (by kernel_rfl) hi0 hz0 hz1 hz2 rfl (by omega) v k (legsC (ls.take k)) (by rfl) ((hownd.drew).alloc _)
        ⟨wr.heap.size, 0, none⟩ 1 1 [.int .i64 y.f, .int .i64 y.t, .int .i64 y.a, .int .i64 y.q, .int .i64 y.n] (by rfl) (by rfl) (World.news_of_block (cs := #[.int .i64 y.f, .int .i64 y.t, .int .i64 y.a, .int .i64 y.q, .int .i64 y.n]) (t := 45) (fr := (0, 0)) (heap_alloc_new wr.drew _)) (by simp [Value.oneCell'])
        (by omega) hmax hby (by simp; omega) (wr.heap.size + 1) (by simp) ?_
      intro gg cap wa hown1 hgrow hat hlt2
      have hva : wa.cell? ⟨g + 1, 6, none⟩ = some v := (hgrow.cell_far ⟨g + 1, 6, none⟩ (by simp; omega) (Ne.symm ao)).trans (cell_alloc (w := wr.drew) hv _)
      have hfz6 : wa.frozen? ⟨g + 1, 6, none⟩ = false := (hgrow.frozen_far ⟨g + 1, 6, none⟩ (by simp; omega) (Ne.symm ao)).trans (hfa _)
      refine hK.out _ _ ⟨(hgrow.cell_far ⟨g + 1, 6, none⟩ (by simp; omega) (Ne.symm ao)).trans (cell_alloc (w := wr.drew) hv _), (hgrow.cell_far (ad.add i) (by rw [block_of_add]; simp; omega) (by rw [block_of_add]; exact Ne.symm aa)).trans (cell_alloc (w := wr.drew) p0 _), (hgrow.cell_far ⟨ad.block, ad.off + (i + 1), none⟩ (by simp; omega) (Ne.symm aa)).trans (cell_alloc (w := wr.drew) p1 _), (hgrow.cell_far ⟨ad.block, ad.off + (i + 2), none⟩ (by simp; omega) (Ne.symm aa)).trans (cell_alloc (w := wr.drew) p2 _), (hgrow.cell_far ⟨ad.block, ad.off + (i + 3), none⟩ (by simp; omega) (Ne.symm aa)).trans (cell_alloc (w := wr.drew) p3 _), (hgrow.cell_far ⟨ad.block, ad.off + (i + 4), none⟩ (by simp; omega) (Ne.symm aa)).trans (cell_alloc (w := wr.drew) p4 _)⟩ (fun hHeld => ?_)
      clear hK K
      refine norm_ (a' := ?_) ?_ ?_
      rotate_left
      · show Act.put _ (some 123) _ = _
        simp only [Act.put, List.setIfInBounds_toArray, List.set_cons_zero, List.set_cons_succ, i64_w, i32_w]
        rfl
      refine pure_ (i := 29) (N := some 124) (v := ?_) (a' := ?_) #[true, true, true, true, true, true, true, true, true, true, true, true, true, true, true, true, true, true, true, true, true, true, true, true, true, true, true, true, true, true, false] rfl rfl (by kernel_rfl) (fun _ _ _ h => h) (Or.inl ⟨by rfl, ?_⟩) ?_ ?_
      rotate_left
      · intro w'
        go_simp
        with_reducible rfl
      rotate_left
      · simp only [Act.put, List.setIfInBounds_toArray, List.set_cons_zero, List.set_cons_succ, i64_w, i32_w]
        rfl
      refine last_ (i := 30) (N := none) #[true, true, true, true, true, true, true, true, true, true, true, true, true, true, true, true, true, true, true, true, true, true, true, true, true, true, true, true, true, true, true] rfl rfl (by kernel_rfl) (by decide) (fun K hK => ?_)
      refine skip_ (w1 := ?_) (by rfl) rfl ?_ ?_
      rotate_left
      · go_simp
        rfl
      refine hK.out _ _ ?_
      clear hK K
      refine done_ (by kernel_rfl) ?_
      obtain ⟨W2, hW2⟩ : ∃ W2, wa.setCell ⟨g + 1, 6, none⟩ (.slice (some ⟨gg, 0, none⟩) (k + 1) cap) = W2 := ⟨_, rfl⟩
      have hgb : Blk wa (g + 1) 33 (opCs 5 0 0 0 0 x v nilS) := ((bo.drew).alloc _).grown hgrow (Ne.symm ao)
      have hgz : Blk wa g 33 #[.int .i64 0, .int .i64 0, .int .i64 0, .int .i64 0, .int .i64 0, .int .i64 0, .slice none 0 0, .slice none 0 0] := ((bz.drew).alloc _).grown hgrow (Ne.symm az)
      have hBa : Below w.heap.size w wa := (B.drew.alloc (by simpa using lw) _).grown hgrow (by simp; omega) (fun b hb => own_base hown hb)
      have hgb2 : Blk W2 (g + 1) 33 (opCs 5 0 0 0 0 x (.slice (some ⟨gg, 0, none⟩) (k + 1) cap) nilS) := by rw [← hW2]; exact hgb.set_ 6 _
      have hgz2 : Blk W2 g 33 #[.int .i64 0, .int .i64 0, .int .i64 0, .int .i64 0, .int .i64 0, .int .i64 0, .slice none 0 0, .slice none 0 0] := by rw [← hW2]; exact hgz.far (by show g ≠ g + 1; omega) _
      have hB2 : Below w.heap.size w W2 := by rw [← hW2]; exact hBa.setCell (by show w.heap.size ≤ g + 1; omega) _
      have how2 : W2.ownsRow w.heap.size 45 5 (.slice (some ⟨gg, 0, none⟩) (k + 1) cap) (k + 1) (legsC (ls.take k) ++ [.int .i64 y.f, .int .i64 y.t, .int .i64 y.a, .int .i64 y.q, .int .i64 y.n]) := by
        rw [← hW2]; exact own_far hown1 (own_blk_ne hown1 hgb (by decide)) _
      rw [hW2]
      clear hW2 hgb hgz hBa
      go_wp2
      go_roundw
      case rel =>
        refine ⟨k + 1, i + 5, _, by omega, by have := HIK.out; omega, by go_num, hgz2, hgb2, ?_, hB2⟩
        rw [HTK.out, legsC, flat_snoc]
        exact how2
      case measure => simp [intOf]; omega
    · obtain rfl : k = ls.length := by omega
      rw [List.take_length] at hown
      have hin : ¬ (i : Int) < n := by omega
      clear hik HNL2
      obtain ⟨LA, lc, rfl⟩ := own_slice_n hown
      have x0 : wr.cell? ⟨g + 1, 0, none⟩ = some (.int .i64 5) := bo.cell 0
      have r0 : wr.cell? ⟨g, 0, none⟩ = some (.int .i64 0) := bz.cell 0
      have rf0 : wr.frozen? ⟨g, 0, none⟩ = false := bz.frozen 0
      have x1 : wr.cell? ⟨g + 1, 1, none⟩ = some (.int .i64 0) := bo.cell 1
      have r1 : wr.cell? ⟨g, 1, none⟩ = some (.int .i64 0) := bz.cell 1
      have rf1 : wr.frozen? ⟨g, 1, none⟩ = false := bz.frozen 1
      have x2 : wr.cell? ⟨g + 1, 2, none⟩ = some (.int .i64 0) := bo.cell 2
      have r2 : wr.cell? ⟨g, 2, none⟩ = some (.int .i64 0) := bz.cell 2
      have rf2 : wr.frozen? ⟨g, 2, none⟩ = false := bz.frozen 2
      have x3 : wr.cell? ⟨g + 1, 3, none⟩ = some (.int .i64 0) := bo.cell 3
      have r3 : wr.cell? ⟨g, 3, none⟩ = some (.int .i64 0) := bz.cell 3
      have rf3 : wr.frozen? ⟨g, 3, none⟩ = false := bz.frozen 3
      have x4 : wr.cell? ⟨g + 1, 4, none⟩ = some (.int .i64 0) := bo.cell 4
      have r4 : wr.cell? ⟨g, 4, none⟩ = some (.int .i64 0) := bz.cell 4
      have rf4 : wr.frozen? ⟨g, 4, none⟩ = false := bz.frozen 4
      have x5 : wr.cell? ⟨g + 1, 5, none⟩ = some (.int .i64 x) := bo.cell 5
      have r5 : wr.cell? ⟨g, 5, none⟩ = some (.int .i64 0) := bz.cell 5
      have rf5 : wr.frozen? ⟨g, 5, none⟩ = false := bz.frozen 5
      have x6 : wr.cell? ⟨g + 1, 6, none⟩ = some (.slice LA ls.length lc) := bo.cell 6
      have r6 : wr.cell? ⟨g, 6, none⟩ = some (.slice none 0 0) := bz.cell 6
      have rf6 : wr.frozen? ⟨g, 6, none⟩ = false := bz.frozen 6
      have x7 : wr.cell? ⟨g + 1, 7, none⟩ = some (.slice none 0 0) := bo.cell 7
      have r7 : wr.cell? ⟨g, 7, none⟩ = some (.slice none 0 0) := bz.cell 7
      have rf7 : wr.frozen? ⟨g, 7, none⟩ = false := bz.frozen 7
      have K3 := Lib.hid bz
      have nv := own_blk_ne hown bz (by decide)
      have hgw : w.heap.size ≤ g := by omega
      clear bz bo
      go_wp2
      obtain ⟨W5, hW5⟩ : ∃ W5, put8 wr g (.int .i64 5) (.int .i64 0) (.int .i64 0) (.int .i64 0) (.int .i64 0) (.int .i64 x) (.slice LA ls.length lc) (.slice none 0 0) = W5 := ⟨_, rfl⟩
      have K5 : Blk W5 g 33 #[.int .i64 5, .int .i64 0, .int .i64 0, .int .i64 0, .int .i64 0, .int .i64 x, .slice LA ls.length lc, .slice none 0 0] := by rw [← hW5]; exact put8_blk _ _ _ _ _ _ _ _ K3.out
      have B5 : Below w.heap.size w W5 := by rw [← hW5]; exact put8_below _ _ _ _ _ _ _ _ B hgw
      have H5 := put8_own (.int .i64 5) (.int .i64 0) (.int .i64 0) (.int .i64 0) (.int .i64 0) (.int .i64 x) (.slice LA ls.length lc) (.slice none 0 0) hown nv
      rw [hW5] at H5
      unfold put8 at hW5
      rw [hW5]
      clear hW5
      have c50 : W5.cell? ⟨g, 0, none⟩ = some (.int .i64 5) := K5.cell 0
      have c51 : W5.cell? ⟨g, 1, none⟩ = some (.int .i64 0) := K5.cell 1
      have c52 : W5.cell? ⟨g, 2, none⟩ = some (.int .i64 0) := K5.cell 2
      have c53 : W5.cell? ⟨g, 3, none⟩ = some (.int .i64 0) := K5.cell 3
      have c54 : W5.cell? ⟨g, 4, none⟩ = some (.int .i64 0) := K5.cell 4
      have c55 : W5.cell? ⟨g, 5, none⟩ = some (.int .i64 x) := K5.cell 5
      have c56 : W5.cell? ⟨g, 6, none⟩ = some (.slice LA ls.length lc) := K5.cell 6
      have c57 : W5.cell? ⟨g, 7, none⟩ = some (.slice none 0 0) := K5.cell 7
      refine bodyPost_ret (v := .tuple #[.agg #[.int .i64 5, .int .i64 0, .int .i64 0, .int .i64 0, .int .i64 0, .int .i64 x, .slice LA ls.length lc, .slice none 0 0], .int .i64 0]) (by simp [results, Tryd.results24, go_sem, c50, c51, c52, c53, c54, c55, c56, c57]) rfl ?_
      exact ⟨_, nilS, rfl, H5, World.ownsRow_nil _ _ _ _, B5⟩
set_option maxRecDepth 100000 in
set_option maxHeartbeats 8000000 in
theorem rdec_ok8 (A : Option Addr) (ls : List Key) (n cap : Nat) (w : World) (hr : Reads w w.heap.size 1 A n (intsC (8 :: ls.flatMap (fun x => [x.acc, x.ast])))) (hnl : n = ls.length * 2 + 1) (hcap : n ≤ cap) (hn : n ≤ 17592186044416) :
    Calls Tryd.prog 24 #[.slice A n cap] w (RefDecTo w (⟨8, 0, 0, 0, 0, 0, [], ls⟩, 0)) := by
  obtain ⟨i0, hi0, hz0, hz1, hz2⟩ := info_parts infoKeys
  obtain ⟨ad, rfl, hb, hcell⟩ := hr.2 (by omega)
  have c0 : w.cell? ad = some (.int .i64 8) := by have := hcell 0 _ rfl; simpa [Addr.add] using this
  have hcell0 := fun o => cell_alloc c0 o
  have hn0 : (0 : Int) < n := by omega
  have hw : IntKind.i64.wrap ((n : Int) - 1) = (n : Int) - 1 := by rw [IntKind.wrap_i64]; omega
  have hn1 : ¬ (n : Int) - 1 < 0 := by omega
  have h2 : (((n : Int) - 1) % 2 == 0) = true := beq_iff_eq.2 (by omega)
  have h1 : (((n : Int) - 1) % 2 != 0) = false := by simp only [bne, h2, Bool.not_true]
  have HC := Lib.hid hcell
  have HNL := Lib.hid hnl
  clear hcell hnl hr
  obtain ⟨g, hg⟩ : ∃ g, w.heap.size = g := ⟨_, rfl⟩
  go_enter Tryd.func24, Tryd.ntmps24
  go_wp2_with (first | (go_at_call 56; refine (fixed_calls 8 (-1) _ (by simp)).mono ?_; rintro e w1 ⟨rfl, rfl⟩))
  obtain ⟨W0, hW0⟩ : ∃ W0, (w.alloc (.cells #[.int .i64 0, .int .i64 0, .int .i64 0, .int .i64 0, .int .i64 0, .int .i64 0, .slice none 0 0, .slice none 0 0] 33)).alloc (.cells (opCs 8 0 0 0 0 0 nilS nilS) 33) = W0 := ⟨_, rfl⟩
  have bz : Blk W0 g 33 #[.int .i64 0, .int .i64 0, .int .i64 0, .int .i64 0, .int .i64 0, .int .i64 0, .slice none 0 0, .slice none 0 0] := by rw [← hW0, ← hg]; exact (Blk.new _ _ _).alloc _
  have bo : Blk W0 (g + 1) 33 (opCs 8 0 0 0 0 0 nilS nilS) := by rw [← hW0, ← hg]; have h := Blk.new (w.alloc (.cells #[.int .i64 0, .int .i64 0, .int .i64 0, .int .i64 0, .int .i64 0, .int .i64 0, .slice none 0 0, .slice none 0 0] 33)) 33 (opCs 8 0 0 0 0 0 nilS nilS); simpa using h
  have B0 : Below w.heap.size w W0 := hW0 ▸ ((Below.refl _ _).alloc (Nat.le_refl _) _).alloc (by simp) _
  simp only [opCs] at hW0
  rw [hW0]
  clear hW0 hcell0 c0
  go_loopw [9] (fun j wr => ∃ (k i : Nat) (v : Value), k ≤ ls.length ∧ i = k * 2 + 1 ∧ j = .int .i64 (i : Nat) ∧ Blk wr g 33 #[.int .i64 0, .int .i64 0, .int .i64 0, .int .i64 0, .int .i64 0, .int .i64 0, .slice none 0 0, .slice none 0 0] ∧ Blk wr (g + 1) 33 (opCs 8 0 0 0 0 0 nilS v) ∧ wr.ownsRow w.heap.size 47 2 v k (keysC (ls.take k)) ∧ Below w.heap.size w wr) (fun j _ => n + 1 - (intOf j).toNat)
  case atStart => exact ⟨0, 1, nilS, Nat.zero_le _, by omega, rfl, bz, bo, World.ownsRow_nil _ _ _ _, B0⟩
  case round =>
    clear bz bo B0
    obtain ⟨k, i, v, hk, hik, rfl, bz, bo, hown, B⟩ := hrel
    have HNL2 := HNL.out
    by_cases hlt : k < ls.length
    · have hin : (i : Int) < n := by omega
      have hi0' : (0 : Int) ≤ i := by omega
      have w1 : IntKind.i64.wrap ((i : Int) + 1) = (i : Int) + 1 := by rw [IntKind.wrap_i64]; omega
      have l1 : (i : Int) + 1 < n := by omega
      have m1 : (0 : Int) ≤ (i : Int) + 1 := by omega
      have w2 : IntKind.i64.wrap ((i : Int) + 2) = (i : Int) + 2 := by rw [IntKind.wrap_i64]; omega
      have htk : ls.take (k + 1) = ls.take k ++ [ls[k]] := by rw [List.take_succ_eq_append_getElem hlt]
      have p0 : wr.cell? (ad.add i) = some (.int .i64 ls[k].acc) := by have h := raw_at (pre := [8]) HC.out (fun _ => rfl) hik hlt 0 (by decide) rfl; rw [Nat.add_zero] at h; exact cell_below B h
      have p1 : wr.cell? ⟨ad.block, ad.off + (i + 1), none⟩ = some (.int .i64 ls[k].ast) := by have h := cell_below B (raw_at (pre := [8]) HC.out (fun _ => rfl) hik hlt 1 (by decide) rfl); simpa [Addr.add] using h
      have t1 : ((i : Int) + 1).toNat = i + 1 := by omega
      generalize hx : ls[k] = y at htk p0 p1
      have HTK := Lib.hid htk
      have HX := Lib.hid hx
      clear htk hx
      have hv : wr.cell? ⟨g + 1, 7, none⟩ = some v := bo.cell 7
      have hvf : wr.frozen? ⟨g + 1, 7, none⟩ = false := bo.frozen 7
      have hkm : k + 1 ≤ 17592186044416 := by omega
      have hkb : (k + 1) * 16 ≤ 140737488355328 := by omega
      have HIK := Lib.hid hik
      clear hik HNL2
      go_wp2_with (fail)
      have hfa : ∀ o, (wr.alloc o).frozen? ⟨g + 1, 7, none⟩ = false := fun o => (bo.alloc o).frozen 7
      have lo : g + 1 < wr.heap.size := bo.lt
      have lw : w.heap.size ≤ wr.heap.size := B.size
      have la : ad.block < wr.heap.size := by omega
      have ao : v.ownBlock ≠ some (g + 1) := own_blk_ne hown bo (by decide)
      have az : v.ownBlock ≠ some g := own_blk_ne hown bz (by decide)
      have aa : v.ownBlock ≠ some ad.block := fun hk => by have := own_base hown hk; omega
      have hmax : k + 1 ≤ maxLen := by simp only [maxLen]; omega
      have hby : (k + 1) * 16 ≤ 140737488355328 := hkb
      have hownd := hown
      refine start_ (n := 16) (S := fun w' => w'.cell? ⟨g + 1, 7, none⟩ = some v ∧ w'.cell? (ad.add i) = some (.int .i64 y.acc) ∧ w'.cell? ⟨ad.block, ad.off + (i + 1), none⟩ = some (.int .i64 y.ast)) (ds := [15]) #[false, false, false, false, false, false, false, false, false, false, false, false, false, false, false, false] (by kernel_rfl) rfl rfl ⟨hv, p0, p1⟩ (fun hHeld => ?_)
      refine pure_ (i := 0) (N := some 140) (v := ?_) (a' := ?_) #[true, false, false, false, false, false, false, false, false, false, false, false, false, false, false, false] rfl rfl (by kernel_rfl) (fun _ _ _ h => h) (Or.inl ⟨by rfl, ?_⟩) ?_ ?_
      rotate_left
      · intro w'
        go_simp
        with_reducible rfl
      rotate_left
      · simp only [Act.put, List.setIfInBounds_toArray, List.set_cons_zero, List.set_cons_succ, i64_w, i32_w]
        rfl
      refine pure_ (i := 2) (N := some 142) (v := ?_) (a' := ?_) #[true, false, true, false, false, false, false, false, false, false, false, false, false, false, false, false] rfl rfl (by kernel_rfl) (fun _ _ _ h => h) (Or.inl ⟨by rfl, ?_⟩) ?_ ?_
      rotate_left
      · intro w'
        go_simp
        with_reducible rfl
      rotate_left
      · simp only [Act.put, List.setIfInBounds_toArray, List.set_cons_zero, List.set_cons_succ, i64_w, i32_w]
        rfl
      refine pure_ (i := 3) (N := some 143) (v := ?_) (a' := ?_) #[true, false, true, true, false, false, false, false, false, false, false, false, false, false, false, false] rfl rfl (by kernel_rfl) (fun _ _ _ h => h) (Or.inl ⟨by rfl, ?_⟩) ?_ ?_
      rotate_left
      · intro w'
        go_simp
        with_reducible rfl
      rotate_left
      · simp only [Act.put, List.setIfInBounds_toArray, List.set_cons_zero, List.set_cons_succ, i64_w, i32_w]
        rfl
      refine pure_ (i := 4) (N := some 144) (v := ?_) (a' := ?_) #[true, false, true, true, true, false, false, false, false, false, false, false, false, false, false, false] rfl rfl (by kernel_rfl) (fun _ _ _ h => h) (Or.inl ⟨by rfl, ?_⟩) ?_ ?_
      rotate_left
      · intro w'
        go_simp
        with_reducible rfl
      rotate_left
      · simp only [Act.put, List.setIfInBounds_toArray, List.set_cons_zero, List.set_cons_succ, i64_w, i32_w]
        rfl
      refine pure_ (i := 6) (N := some 146) (v := ?_) (a' := ?_) #[true, false, true, true, true, false, true, false, false, false, false, false, false, false, false, false] rfl rfl (by kernel_rfl) (fun _ _ _ h => h) (Or.inl ⟨by rfl, ?_⟩) ?_ ?_
      rotate_left
      · intro w'
        go_simp
        with_reducible rfl
      rotate_left
      · simp only [Act.put, List.setIfInBounds_toArray, List.set_cons_zero, List.set_cons_succ, i64_w, i32_w]
        rfl
      refine pure_ (i := 7) (N := some 147) (v := ?_) (a' := ?_) #[true, false, true, true, true, false, true, true, false, false, false, false, false, false, false, false] rfl rfl (by kernel_rfl) (fun _ _ _ h => h) (Or.inl ⟨by rfl, ?_⟩) ?_ ?_
      rotate_left
      · intro w'
        go_simp
        with_reducible rfl
      rotate_left
      · simp only [Act.put, List.setIfInBounds_toArray, List.set_cons_zero, List.set_cons_succ, i64_w, i32_w]
        rfl
      refine pure_ (i := 8) (N := some 148) (v := ?_) (a' := ?_) #[true, false, true, true, true, false, true, true, true, false, false, false, false, false, false, false] rfl rfl (by kernel_rfl) (fun _ _ _ h => h) (Or.inl ⟨by rfl, ?_⟩) ?_ ?_
      rotate_left
      · intro w'
        go_simp
        with_reducible rfl
      rotate_left
      · simp only [Act.put, List.setIfInBounds_toArray, List.set_cons_zero, List.set_cons_succ, i64_w, i32_w]
        rfl
      refine pure_ (i := 9) (N := some 149) (v := ?_) (a' := ?_) #[true, false, true, true, true, false, true, true, true, true, false, false, false, false, false, false] rfl rfl (by kernel_rfl) (fun _ _ _ h => h) (Or.inl ⟨by rfl, ?_⟩) ?_ ?_
      rotate_left
      · intro w'
        go_simp
        with_reducible rfl
      rotate_left
      · simp only [Act.put, List.setIfInBounds_toArray, List.set_cons_zero, List.set_cons_succ, i64_w, i32_w]
        rfl
      refine take_ (i := 1) (N := some 141) (v := ?_) (a' := ?_) #[true, true, true, true, true, false, true, true, true, true, false, false, false, false, false, false] rfl rfl (by kernel_rfl) (fun _ _ _ h => h) (Or.inl ⟨by rfl, ?_⟩) hHeld ?_ ?_
      rotate_left
      · rintro w' ⟨s0, s1, s2⟩
        go_simp
        with_reducible rfl
      rotate_left
      · simp only [Act.put, List.setIfInBounds_toArray, List.set_cons_zero, List.set_cons_succ, i64_w, i32_w]
        rfl
      refine take_ (i := 5) (N := some 145) (v := ?_) (a' := ?_) #[true, true, true, true, true, true, true, true, true, true, false, false, false, false, false, false] rfl rfl (by kernel_rfl) (fun _ _ _ h => h) (Or.inl ⟨by rfl, ?_⟩) hHeld ?_ ?_
      rotate_left
      · rintro w' ⟨s0, s1, s2⟩
        go_simp
        with_reducible rfl
      rotate_left
      · simp only [Act.put, List.setIfInBounds_toArray, List.set_cons_zero, List.set_cons_succ, i64_w, i32_w]
        rfl
      refine take_ (i := 10) (N := some 150) (v := ?_) (a' := ?_) #[true, true, true, true, true, true, true, true, true, true, true, false, false, false, false, false] rfl rfl (by kernel_rfl) (fun _ _ _ h => h) (Or.inl ⟨by rfl, ?_⟩) hHeld ?_ ?_
      rotate_left
      · rintro w' ⟨s0, s1, s2⟩
        go_simp
        with_reducible rfl
      rotate_left
      · simp only [Act.put, List.setIfInBounds_toArray, List.set_cons_zero, List.set_cons_succ, i64_w, i32_w]
        rfl
      refine pure_ (i := 11) (N := some 151) (v := ?_) (a' := ?_) #[true, true, true, true, true, true, true, true, true, true, true, true, false, false, false, false] rfl rfl (by kernel_rfl) (fun _ _ _ h => h) (Or.inl ⟨by rfl, ?_⟩) ?_ ?_
      rotate_left
      · intro w'
        go_simp
        with_reducible rfl
      rotate_left
      · simp only [Act.put, List.setIfInBounds_toArray, List.set_cons_zero, List.set_cons_succ, i64_w, i32_w]
        rfl
      refine one_ (i := 12) (N := some 152) #[true, true, true, true, true, true, true, true, true, true, true, true, true, false, false, false] rfl rfl (by kernel_rfl) (by decide) (fun K hK => ?_)
      refine value_ (w1 := ?_) (v := ?_) (by rfl) rfl ?_ ?_
      rotate_left 2
      · go_simp
        constructor
        · rfl
        · rfl
      refine hK.out _ _ ⟨cell_alloc (w := wr.drew) hv _, cell_alloc (w := wr.drew) p0 _, cell_alloc (w := wr.drew) p1 _⟩ (fun hHeld => ?_)
      clear hK K
      refine norm_ (a' := ?_) ?_ ?_
      rotate_left
      · show Act.put _ (some 152) _ = _
        simp only [Act.put, List.setIfInBounds_toArray, List.set_cons_zero, List.set_cons_succ, i64_w, i32_w]
        rfl
      refine one_ (i := 13) (N := some 153) #[true, true, true, true, true, true, true, true, true, true, true, true, true, true, false, false] rfl rfl (by kernel_rfl) (by decide) (fun K hK => ?_)
      refine step_append_lies _ (by rfl) _ _ _ (by rfl) w.heap.size 47 i0 _ 2 16 (by kernel_rfl) hi0 hz0 hz1 hz2 rfl (by omega) v k (keysC (ls.take k)) (by rfl) ((hownd.drew).alloc _)
        ⟨wr.heap.size, 0, none⟩ 1 1 [.int .i64 y.acc, .int .i64 y.ast] (by rfl) (by rfl) (World.news_of_block (cs := #[.int .i64 y.acc, .int .i64 y.ast]) (t := 47) (fr := (0, 0)) (heap_alloc_new wr.drew _)) (by simp [Value.oneCell'])
        (by omega) hmax hby (by simp; omega) (wr.heap.size + 1) (by simp) ?_
      intro gg cap wa hown1 hgrow hat hlt2
      have hva : wa.cell? ⟨g + 1, 7, none⟩ = some v := (hgrow.cell_far ⟨g + 1, 7, none⟩ (by simp; omega) (Ne.symm ao)).trans (cell_alloc (w := wr.drew) hv _)
      have hfz6 : wa.frozen? ⟨g + 1, 7, none⟩ = false := (hgrow.frozen_far ⟨g + 1, 7, none⟩ (by simp; omega) (Ne.symm ao)).trans (hfa _)
      refine hK.out _ _ ⟨(hgrow.cell_far ⟨g + 1, 7, none⟩ (by simp; omega) (Ne.symm ao)).trans (cell_alloc (w := wr.drew) hv _), (hgrow.cell_far (ad.add i) (by rw [block_of_add]; simp; omega) (by rw [block_of_add]; exact Ne.symm aa)).trans (cell_alloc (w := wr.drew) p0 _), (hgrow.cell_far ⟨ad.block, ad.off + (i + 1), none⟩ (by simp; omega) (Ne.symm aa)).trans (cell_alloc (w := wr.drew) p1 _)⟩ (fun hHeld => ?_)
      clear hK K
      refine norm_ (a' := ?_) ?_ ?_
      rotate_left
      · show Act.put _ (some 153) _ = _
        simp only [Act.put, List.setIfInBounds_toArray, List.set_cons_zero, List.set_cons_succ, i64_w, i32_w]
        rfl
      refine pure_ (i := 14) (N := some 154) (v := ?_) (a' := ?_) #[true, true, true, true, true, true, true, true, true, true, true, true, true, true, true, false] rfl rfl (by kernel_rfl) (fun _ _ _ h => h) (Or.inl ⟨by rfl, ?_⟩) ?_ ?_
      rotate_left
      · intro w'
        go_simp
        with_reducible rfl
      rotate_left
      · simp only [Act.put, List.setIfInBounds_toArray, List.set_cons_zero, List.set_cons_succ, i64_w, i32_w]
        rfl
      refine last_ (i := 15) (N := none) #[true, true, true, true, true, true, true, true, true, true, true, true, true, true, true, true] rfl rfl (by kernel_rfl) (by decide) (fun K hK => ?_)
      refine skip_ (w1 := ?_) (by rfl) rfl ?_ ?_
      rotate_left
      · go_simp
        rfl
      refine hK.out _ _ ?_
      clear hK K
      refine done_ (by kernel_rfl) ?_
      obtain ⟨W2, hW2⟩ : ∃ W2, wa.setCell ⟨g + 1, 7, none⟩ (.slice (some ⟨gg, 0, none⟩) (k + 1) cap) = W2 := ⟨_, rfl⟩
      have hgb : Blk wa (g + 1) 33 (opCs 8 0 0 0 0 0 nilS v) := ((bo.drew).alloc _).grown hgrow (Ne.symm ao)
      have hgz : Blk wa g 33 #[.int .i64 0, .int .i64 0, .int .i64 0, .int .i64 0, .int .i64 0, .int .i64 0, .slice none 0 0, .slice none 0 0] := ((bz.drew).alloc _).grown hgrow (Ne.symm az)
      have hBa : Below w.heap.size w wa := (B.drew.alloc (by simpa using lw) _).grown hgrow (by simp; omega) (fun b hb => own_base hown hb)
      have hgb2 : Blk W2 (g + 1) 33 (opCs 8 0 0 0 0 0 nilS (.slice (some ⟨gg, 0, none⟩) (k + 1) cap)) := by rw [← hW2]; exact hgb.set_ 7 _
      have hgz2 : Blk W2 g 33 #[.int .i64 0, .int .i64 0, .int .i64 0, .int .i64 0, .int .i64 0, .int .i64 0, .slice none 0 0, .slice none 0 0] := by rw [← hW2]; exact hgz.far (by show g ≠ g + 1; omega) _
      have hB2 : Below w.heap.size w W2 := by rw [← hW2]; exact hBa.setCell (by show w.heap.size ≤ g + 1; omega) _
      have how2 : W2.ownsRow w.heap.size 47 2 (.slice (some ⟨gg, 0, none⟩) (k + 1) cap) (k + 1) (keysC (ls.take k) ++ [.int .i64 y.acc, .int .i64 y.ast]) := by
        rw [← hW2]; exact own_far hown1 (own_blk_ne hown1 hgb (by decide)) _
      rw [hW2]
      clear hW2 hgb hgz hBa
      go_wp2
      go_roundw
      case rel =>
        refine ⟨k + 1, i + 2, _, by omega, by have := HIK.out; omega, by go_num, hgz2, hgb2, ?_, hB2⟩
        rw [HTK.out, keysC, flat_snoc]
        exact how2
      case measure => simp [intOf]; omega
    · obtain rfl : k = ls.length := by omega
      rw [List.take_length] at hown
      have hin : ¬ (i : Int) < n := by omega
      clear hik HNL2
      obtain ⟨LA, lc, rfl⟩ := own_slice_n hown
      have x0 : wr.cell? ⟨g + 1, 0, none⟩ = some (.int .i64 8) := bo.cell 0
      have r0 : wr.cell? ⟨g, 0, none⟩ = some (.int .i64 0) := bz.cell 0
      have rf0 : wr.frozen? ⟨g, 0, none⟩ = false := bz.frozen 0
      have x1 : wr.cell? ⟨g + 1, 1, none⟩ = some (.int .i64 0) := bo.cell 1
      have r1 : wr.cell? ⟨g, 1, none⟩ = some (.int .i64 0) := bz.cell 1
      have rf1 : wr.frozen? ⟨g, 1, none⟩ = false := bz.frozen 1
      have x2 : wr.cell? ⟨g + 1, 2, none⟩ = some (.int .i64 0) := bo.cell 2
      have r2 : wr.cell? ⟨g, 2, none⟩ = some (.int .i64 0) := bz.cell 2
      have rf2 : wr.frozen? ⟨g, 2, none⟩ = false := bz.frozen 2
      have x3 : wr.cell? ⟨g + 1, 3, none⟩ = some (.int .i64 0) := bo.cell 3
      have r3 : wr.cell? ⟨g, 3, none⟩ = some (.int .i64 0) := bz.cell 3
      have rf3 : wr.frozen? ⟨g, 3, none⟩ = false := bz.frozen 3
      have x4 : wr.cell? ⟨g + 1, 4, none⟩ = some (.int .i64 0) := bo.cell 4
      have r4 : wr.cell? ⟨g, 4, none⟩ = some (.int .i64 0) := bz.cell 4
      have rf4 : wr.frozen? ⟨g, 4, none⟩ = false := bz.frozen 4
      have x5 : wr.cell? ⟨g + 1, 5, none⟩ = some (.int .i64 0) := bo.cell 5
      have r5 : wr.cell? ⟨g, 5, none⟩ = some (.int .i64 0) := bz.cell 5
      have rf5 : wr.frozen? ⟨g, 5, none⟩ = false := bz.frozen 5
      have x6 : wr.cell? ⟨g + 1, 6, none⟩ = some (.slice none 0 0) := bo.cell 6
      have r6 : wr.cell? ⟨g, 6, none⟩ = some (.slice none 0 0) := bz.cell 6
      have rf6 : wr.frozen? ⟨g, 6, none⟩ = false := bz.frozen 6
      have x7 : wr.cell? ⟨g + 1, 7, none⟩ = some (.slice LA ls.length lc) := bo.cell 7
      have r7 : wr.cell? ⟨g, 7, none⟩ = some (.slice none 0 0) := bz.cell 7
      have rf7 : wr.frozen? ⟨g, 7, none⟩ = false := bz.frozen 7
      have K3 := Lib.hid bz
      have nv := own_blk_ne hown bz (by decide)
      have hgw : w.heap.size ≤ g := by omega
      clear bz bo
      go_wp2
      obtain ⟨W5, hW5⟩ : ∃ W5, put8 wr g (.int .i64 8) (.int .i64 0) (.int .i64 0) (.int .i64 0) (.int .i64 0) (.int .i64 0) (.slice none 0 0) (.slice LA ls.length lc) = W5 := ⟨_, rfl⟩
      have K5 : Blk W5 g 33 #[.int .i64 8, .int .i64 0, .int .i64 0, .int .i64 0, .int .i64 0, .int .i64 0, .slice none 0 0, .slice LA ls.length lc] := by rw [← hW5]; exact put8_blk _ _ _ _ _ _ _ _ K3.out
      have B5 : Below w.heap.size w W5 := by rw [← hW5]; exact put8_below _ _ _ _ _ _ _ _ B hgw
      have H5 := put8_own (.int .i64 8) (.int .i64 0) (.int .i64 0) (.int .i64 0) (.int .i64 0) (.int .i64 0) (.slice none 0 0) (.slice LA ls.length lc) hown nv
      rw [hW5] at H5
      unfold put8 at hW5
      rw [hW5]
      clear hW5
      have c50 : W5.cell? ⟨g, 0, none⟩ = some (.int .i64 8) := K5.cell 0
      have c51 : W5.cell? ⟨g, 1, none⟩ = some (.int .i64 0) := K5.cell 1
      have c52 : W5.cell? ⟨g, 2, none⟩ = some (.int .i64 0) := K5.cell 2
      have c53 : W5.cell? ⟨g, 3, none⟩ = some (.int .i64 0) := K5.cell 3
      have c54 : W5.cell? ⟨g, 4, none⟩ = some (.int .i64 0) := K5.cell 4
      have c55 : W5.cell? ⟨g, 5, none⟩ = some (.int .i64 0) := K5.cell 5
      have c56 : W5.cell? ⟨g, 6, none⟩ = some (.slice none 0 0) := K5.cell 6
      have c57 : W5.cell? ⟨g, 7, none⟩ = some (.slice LA ls.length lc) := K5.cell 7
      refine bodyPost_ret (v := .tuple #[.agg #[.int .i64 8, .int .i64 0, .int .i64 0, .int .i64 0, .int .i64 0, .int .i64 0, .slice none 0 0, .slice LA ls.length lc], .int .i64 0]) (by simp [results, Tryd.results24, go_sem, c50, c51, c52, c53, c54, c55, c56, c57]) rfl ?_
      exact ⟨nilS, _, rfl, World.ownsRow_nil _ _ _ _, H5, B5⟩

theorem cell0 {w : World} {A : Option Addr} {c : Int} {r : List Int} {n : Nat} (hr : Reads w w.heap.size 1 A n (intsC (c :: r))) (hn : 0 < n) : ∃ ad, A = some ad ∧ ad.block < w.heap.size ∧ w.cell? ad = some (.int .i64 c) := by
  obtain ⟨ad, e, hb, hc⟩ := hr.2 hn
  exact ⟨ad, e, hb, by have := hc 0 _ rfl; simpa [Addr.add] using this⟩
theorem legs5_some : ∀ (r : List Int), r.length % 5 = 0 → ∃ ls, legs5 r = some ls
  | [], _ => ⟨[], rfl⟩
  | f :: t :: a :: q :: n :: r, h => by
    obtain ⟨ls, hl⟩ := legs5_some r (by simp only [List.length_cons] at h; omega)
    exact ⟨⟨f, t, a, q, n⟩ :: ls, by simp only [legs5, hl, Option.map_some]⟩
  | [_], h => by simp at h
  | [_, _], h => by simp at h
  | [_, _, _], h => by simp at h
  | [_, _, _, _], h => by simp at h
theorem keys2_some : ∀ (r : List Int), r.length % 2 = 0 → ∃ ks, keys2 r = some ks
  | [], _ => ⟨[], rfl⟩
  | x :: y :: r, h => by
    obtain ⟨ks, hl⟩ := keys2_some r (by simp only [List.length_cons] at h; omega)
    exact ⟨⟨x, y⟩ :: ks, by simp only [keys2, hl, Option.map_some]⟩
  | [_], h => by simp at h
theorem legs5_no {r : List Int} (h : r.length % 5 ≠ 0) : legs5 r = none := by
  cases e : legs5 r with
  | none => rfl
  | some ls => have := legs5_len e; omega
theorem keys2_no {r : List Int} (h : r.length % 2 ≠ 0) : keys2 r = none := by
  cases e : keys2 r with
  | none => rfl
  | some ks => have := keys2_len e; omega

/-- custodyref16.Decode: what guard.Decode answers. -/
theorem refdec_calls (A : Option Addr) (cap : Nat) (raw : List Int) (w : World) (hr : Reads w w.heap.size 1 A raw.length (intsC raw)) (hcap : raw.length ≤ cap) (hlen : raw.length ≤ 17592186044416) :
    Calls Tryd.prog 24 #[.slice A raw.length cap] w (RefDecTo w (decodeG raw)) := by
  match raw, hr, hcap, hlen with
  | [], _, _, _ => exact rdec_nil A cap w
  | c :: r, hr, hcap, hlen =>
    have h0 : 0 < (c :: r).length := by simp
    have hc := cell0 hr h0
    have hL : (c :: r).length = r.length + 1 := rfl
    by_cases hlow : c < 1
    · have e : decodeG (c :: r) = (OpM.zero, 13) := by
        show (match rdOf c r with | some res => fin res | none => (OpM.zero, 13)) = _
        rw [show rdOf c r = none by unfold rdOf; rw [if_neg (by omega), if_neg (by omega), if_neg (by omega), if_neg (by omega), if_neg (by omega)]]
      rw [e]
      exact rdec_low c A _ cap w h0 hc hlen hlow
    by_cases hhigh : 8 < c
    · have e : decodeG (c :: r) = (OpM.zero, 13) := by
        show (match rdOf c r with | some res => fin res | none => (OpM.zero, 13)) = _
        rw [show rdOf c r = none by unfold rdOf; rw [if_neg (by omega), if_neg (by omega), if_neg (by omega), if_neg (by omega), if_neg (by omega)]]
      rw [e]
      exact rdec_high c A _ cap w h0 hc hlen hhigh
    have hcs : c = 1 ∨ c = 2 ∨ c = 3 ∨ c = 4 ∨ c = 5 ∨ c = 6 ∨ c = 7 ∨ c = 8 := by omega
    rcases hcs with rfl | rfl | rfl | rfl | rfl | rfl | rfl | rfl
    · match r, hr, hcap, hlen, hc, h0, hL with
      | [], hr, hcap, hlen, hc, h0, _ => exact rdec_short1 A _ cap w h0 hc hlen (by simp)
      | [_], hr, hcap, hlen, hc, h0, _ => exact rdec_short1 A _ cap w h0 hc hlen (by simp)
      | [_, _], hr, hcap, hlen, hc, h0, _ => exact rdec_short1 A _ cap w h0 hc hlen (by simp)
      | [x0, x1, x2], hr, hcap, hlen, hc, h0, _ => exact rdec_ok1 A x0 x1 x2 cap w hr hcap
      | x0 :: x1 :: x2 :: u :: r, hr, hcap, hlen, hc, h0, _ => exact rdec_long1 A _ cap w h0 hc hlen (by simp)
    · match r, hr, hcap, hlen, hc, h0, hL with
      | [], hr, hcap, hlen, hc, h0, _ => exact rdec_short2 A _ cap w h0 hc hlen (by simp)
      | [_], hr, hcap, hlen, hc, h0, _ => exact rdec_short2 A _ cap w h0 hc hlen (by simp)
      | [_, _], hr, hcap, hlen, hc, h0, _ => exact rdec_short2 A _ cap w h0 hc hlen (by simp)
      | [x0, x1, x2], hr, hcap, hlen, hc, h0, _ => exact rdec_ok2 A x0 x1 x2 cap w hr hcap
      | x0 :: x1 :: x2 :: u :: r, hr, hcap, hlen, hc, h0, _ => exact rdec_long2 A _ cap w h0 hc hlen (by simp)
    · match r, hr, hcap, hlen, hc, h0, hL with
      | [], hr, hcap, hlen, hc, h0, _ => exact rdec_short3 A _ cap w h0 hc hlen (by simp)
      | [_], hr, hcap, hlen, hc, h0, _ => exact rdec_short3 A _ cap w h0 hc hlen (by simp)
      | [_, _], hr, hcap, hlen, hc, h0, _ => exact rdec_short3 A _ cap w h0 hc hlen (by simp)
      | [_, _, _], hr, hcap, hlen, hc, h0, _ => exact rdec_short3 A _ cap w h0 hc hlen (by simp)
      | [x0, x1, x2, x3], hr, hcap, hlen, hc, h0, _ => exact rdec_ok3 A x0 x1 x2 x3 cap w hr hcap
      | x0 :: x1 :: x2 :: x3 :: u :: r, hr, hcap, hlen, hc, h0, _ => exact rdec_long3 A _ cap w h0 hc hlen (by simp)
    · match r, hr, hcap, hlen, hc, h0, hL with
      | [], hr, hcap, hlen, hc, h0, _ => exact rdec_short4 A _ cap w h0 hc hlen (by simp)
      | [_], hr, hcap, hlen, hc, h0, _ => exact rdec_short4 A _ cap w h0 hc hlen (by simp)
      | [_, _], hr, hcap, hlen, hc, h0, _ => exact rdec_short4 A _ cap w h0 hc hlen (by simp)
      | [_, _, _], hr, hcap, hlen, hc, h0, _ => exact rdec_short4 A _ cap w h0 hc hlen (by simp)
      | [x0, x1, x2, x3], hr, hcap, hlen, hc, h0, _ => exact rdec_ok4 A x0 x1 x2 x3 cap w hr hcap
      | x0 :: x1 :: x2 :: x3 :: u :: r, hr, hcap, hlen, hc, h0, _ => exact rdec_long4 A _ cap w h0 hc hlen (by simp)
    · match r, hr, hcap, hlen, hc, h0, hL with
      | [], hr, hcap, hlen, hc, h0, _ => exact rdec_short5 A _ cap w h0 hc hlen (by simp)
      | x :: r, hr, hcap, hlen, hc, h0, hL =>
        by_cases hm : r.length % 5 = 0
        · obtain ⟨ls, hls⟩ := legs5_some r hm
          have e : decodeG (5 :: x :: r) = (⟨5, 0, 0, 0, 0, x, ls, []⟩, 0) := by
            show fin ((legs5 r).map _) = _
            rw [hls]; rfl
          rw [e]
          have hf := flat_legs5 r ls hls
          have hln := legs5_len hls
          exact rdec_ok5 A x ls _ cap w (by rw [hf]; exact hr) (by simp only [List.length_cons]; omega) hcap hlen
        · have e : decodeG (5 :: x :: r) = (OpM.zero, 2) := by
            show fin ((legs5 r).map _) = _
            rw [legs5_no hm]; rfl
          rw [e]
          exact rdec_short5 A _ cap w h0 hc hlen (by simp only [List.length_cons]; omega)
    · match r, hr, hcap, hlen, hc, h0, hL with
      | [], hr, hcap, hlen, hc, h0, _ => exact rdec_short6 A _ cap w h0 hc hlen (by simp)
      | [x0], hr, hcap, hlen, hc, h0, _ => exact rdec_ok6 A x0 cap w hr hcap
      | x0 :: u :: r, hr, hcap, hlen, hc, h0, _ => exact rdec_long6 A _ cap w h0 hc hlen (by simp)
    · match r, hr, hcap, hlen, hc, h0, hL with
      | [], hr, hcap, hlen, hc, h0, _ => exact rdec_short7 A _ cap w h0 hc hlen (by simp)
      | [x0], hr, hcap, hlen, hc, h0, _ => exact rdec_ok7 A x0 cap w hr hcap
      | x0 :: u :: r, hr, hcap, hlen, hc, h0, _ => exact rdec_long7 A _ cap w h0 hc hlen (by simp)
    · by_cases hm : r.length % 2 = 0
      · obtain ⟨ks, hks⟩ := keys2_some r hm
        have e : decodeG (8 :: r) = (⟨8, 0, 0, 0, 0, 0, [], ks⟩, 0) := by
          show fin ((keys2 r).map _) = _
          rw [hks]; rfl
        rw [e]
        have hf := flat_keys2 r ks hks
        have hln := keys2_len hks
        exact rdec_ok8 A ks _ cap w (by rw [hf]; exact hr) (by simp only [List.length_cons]; omega) hcap hlen
      · have e : decodeG (8 :: r) = (OpM.zero, 2) := by
          show fin ((keys2 r).map _) = _
          rw [keys2_no hm]; rfl
        rw [e]
        exact rdec_short8 A _ cap w h0 hc hlen (by simp only [List.length_cons]; omega)
end Go.Proofs.YtmdkcggmnejkoaaDoor
