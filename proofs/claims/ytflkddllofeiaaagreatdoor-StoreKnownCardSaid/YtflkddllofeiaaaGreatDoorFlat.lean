/- Rows of structs, written in place (no program in it). -/
import Derived.Test.YtflkddllofeiaaaGreatDoorBase
import Derived.Test.YtflkddllofeiaaaGreatDoorList
namespace Go.Proofs.YtflkddllofeiaaaGreatDoor
set_option linter.unusedSimpArgs false
set_option linter.unusedVariables false
open Go.RowKit

theorem row_flat_set {α : Type} (f : α → List Value) (s : Nat) (hf : ∀ x, (f x).length = s) : ∀ (M : List α) {j r : Nat} (hj : j < M.length) (u : Value) (y : α), r < s → f y = (f M[j]).set r u → (M.flatMap f).set (j * s + r) u = (M.set j y).flatMap f
  | [], _, _, hj, _, _, _, _ => absurd hj (by simp)
  | x :: M, 0, r, _, u, y, hr, hy => by
    simp only [List.getElem_cons_zero] at hy
    rw [List.set_cons_zero, List.flatMap_cons, List.flatMap_cons, hy, Nat.zero_mul, Nat.zero_add, List.set_append_left _ _ (by rw [hf]; exact hr)]
  | x :: M, j + 1, r, hj, u, y, hr, hy => by
    simp only [List.getElem_cons_succ] at hy
    rw [List.set_cons_succ, List.flatMap_cons, List.flatMap_cons, List.set_append_right _ _ (by rw [hf, Nat.succ_mul]; omega), ← row_flat_set f s hf M (Nat.lt_of_succ_lt_succ (by simpa using hj)) u y hr hy]
    congr 2
    rw [hf, Nat.succ_mul]; omega
theorem row_at0 {w : World} {base s n c : Nat} {e : TypeId} {A : Option Addr} {xs : List Value} (h : w.ownsRow base e s (.slice A n c) n xs) (hn : 0 < n) : ∃ g, A = some ⟨g, 0, none⟩ := by
  rcases h.2 with ⟨h1, h2⟩ | ⟨g, cap, cur, h1, _⟩
  · injection h1 with _ h3 _; omega
  · injection h1 with h3 _ _; exact ⟨g, h3⟩
theorem row_setN {w : World} {base g c n s : Nat} {e : TypeId} {xs : List Value} (h : w.ownsRow base e s (.slice (some ⟨g, 0, none⟩) n c) n xs) (k : Nat) (u : Value) : (w.setCell ⟨g, k, none⟩ u).ownsRow base e s (.slice (some ⟨g, 0, none⟩) n c) n (xs.set k u) := by
  obtain ⟨hl, h | ⟨g', cap, cur, hv, hb, hh, hn, hc, hs, ht⟩⟩ := h
  · exact absurd h.1 (by simp)
  · injection hv with h1 h2 h3
    injection h1 with h1
    injection h1 with h1
    subst h1 h3
    refine ⟨by simpa using hl, .inr ⟨g, c, cur.setIfInBounds k u, rfl, hb, ?_, hn, hc, by simpa using hs, ?_⟩⟩
    · exact (show Blk w g e cur from hh).set_ k u
    · rw [Array.toList_setIfInBounds, List.take_set, ht]
/-- One field of one element written. -/
theorem row_set {α : Type} {f : α → List Value} {s : Nat} (hf : ∀ x, (f x).length = s) {w : World} {base g c n : Nat} {M : List α} {e : TypeId} (h : w.ownsRow base e s (.slice (some ⟨g, 0, none⟩) n c) n (M.flatMap f)) {j r : Nat} (hj : j < M.length) (u : Value) (y : α) (hr : r < s) (hy : f y = (f M[j]).set r u) :
    (w.setCell ⟨g, j * s + r, none⟩ u).ownsRow base e s (.slice (some ⟨g, 0, none⟩) n c) n ((M.set j y).flatMap f) := by
  rw [← row_flat_set f s hf M hj u y hr hy]
  exact row_setN h _ _
theorem row_frozen {w : World} {base s g m n c : Nat} {e : TypeId} {xs : List Value} (h : w.ownsRow base e s (.slice (some ⟨g, 0, none⟩) m c) n xs) (i : Nat) : w.frozen? ⟨g, i, none⟩ = false := by
  rcases h.2 with ⟨h1, _⟩ | ⟨g', cap, cur, h1, _, h2, _⟩
  · injection h1 with h1 _ _; cases h1
  · injection h1 with h1 _ _
    injection h1 with h1
    injection h1 with h1
    subst h1
    exact Blk.frozen (show Blk w g e cur from h2) i
theorem row_add0 (g i : Nat) : Addr.add ⟨g, 0, none⟩ i = ⟨g, i, none⟩ := by
  unfold Addr.add
  split
  · rename_i h; simp_all
  · simp
/-- The cells of an element. -/
theorem row_cell {α : Type} {f : α → List Value} {s : Nat} (hf : ∀ x, (f x).length = s) {w : World} {base g c : Nat} {M : List α} {e : TypeId} (h : w.ownsRow base e s (.slice (some ⟨g, 0, none⟩) M.length c) M.length (M.flatMap f)) {k : Nat} (hk : k < M.length) {r : Nat} {v : Value} (hr : (f M[k])[r]? = some v) :
    w.cell? ⟨g, k * s + r, none⟩ = some v := by
  obtain ⟨ad, e, _, h0, h1⟩ := Reads.elem hf (Reads.of_own h) hk
  injection e with e
  subst e
  simp only [row_add0] at h0 h1
  cases r with
  | zero => exact h0 v hr
  | succ r => exact h1 (r + 1) v (by omega) hr
theorem row_weak {w : World} {base base' s n : Nat} {e : TypeId} {v : Value} {xs : List Value} (h : w.ownsRow base e s v n xs) (hb : base' ≤ base) : w.ownsRow base' e s v n xs := by
  refine ⟨h.1, ?_⟩
  rcases h.2 with h0 | ⟨g, cap, cur, rfl, h1, r⟩
  · exact .inl h0
  · exact .inr ⟨g, cap, cur, rfl, Nat.le_trans hb h1, r⟩
theorem row_slice {w : World} {base : Nat} {e : TypeId} {size n : Nat} {v : Value} {xs : List Value} (h : w.ownsRow base e size v n xs) : ∃ A c, v = .slice A n c := by
  rcases h.2 with h0 | ⟨g, cap, cur, rfl, _⟩
  · exact ⟨none, 0, by rw [h0.1, h0.2]⟩
  · exact ⟨_, _, rfl⟩
theorem row_lt {w : World} {base : Nat} {e : TypeId} {size n : Nat} {v : Value} {xs : List Value} (h : w.ownsRow base e size v n xs) {k : Nat} (hk : v.ownBlock = some k) : k < w.heap.size := by
  rcases h.2 with h0 | ⟨g, cap, cur, rfl, h1, h2, h3⟩
  · rw [h0.1] at hk; cases hk
  · cases hk
    exact (Array.getElem?_eq_some_iff.1 h2).1
end Go.Proofs.YtflkddllofeiaaaGreatDoor
