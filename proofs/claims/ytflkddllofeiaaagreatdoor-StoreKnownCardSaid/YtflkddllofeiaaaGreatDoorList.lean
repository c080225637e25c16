/- Slices of structs as lists: words of this seat's proofs, over any program. -/
import Derived.Test.YtflkddllofeiaaaGreatDoorBase
namespace Go.Proofs.YtflkddllofeiaaaGreatDoor
set_option linter.unusedSimpArgs false
open Go.RowKit
set_option linter.unusedVariables false

section
variable {α : Type} {enc : α → List Value} {s : Nat}
theorem flat_length (hs : ∀ x, (enc x).length = s) (xs : List α) : (xs.flatMap enc).length = xs.length * s := by
  induction xs with
  | nil => simp
  | cons x xs ih => rw [List.flatMap_cons, List.length_append, hs, ih, List.length_cons, Nat.succ_mul, Nat.add_comm]
theorem flat_get (hs : ∀ x, (enc x).length = s) (xs : List α) (k j : Nat) (hj : j < s) (hk : k < xs.length) : (xs.flatMap enc)[k * s + j]? = (enc xs[k])[j]? := by
  induction xs generalizing k with
  | nil => simp at hk
  | cons x xs ih =>
    rw [List.flatMap_cons]
    cases k with
    | zero => rw [Nat.zero_mul, Nat.zero_add, List.getElem?_append_left (by rw [hs]; exact hj)]; rfl
    | succ k =>
      rw [List.getElem?_append_right (by rw [hs, Nat.succ_mul]; omega), hs, show (k + 1) * s + j - s = k * s + j by rw [Nat.succ_mul]; omega]
      exact ih k (by simpa using hk)
theorem flat_snoc (xs : List α) (x : α) : (xs ++ [x]).flatMap enc = xs.flatMap enc ++ enc x := by simp
theorem flat_take (hs : ∀ x, (enc x).length = s) (xs : List α) (m : Nat) : (xs.flatMap enc).take (m * s) = (xs.take m).flatMap enc := by
  induction xs generalizing m with
  | nil => simp
  | cons x xs ih =>
    cases m with
    | zero => simp
    | succ m => rw [List.take_succ_cons, List.flatMap_cons, List.flatMap_cons, List.take_append, ← ih, hs, List.take_of_length_le (by rw [hs, Nat.succ_mul]; omega), show (m + 1) * s - s = m * s by rw [Nat.succ_mul]; omega]
theorem flat_drop (hs : ∀ x, (enc x).length = s) (xs : List α) (m : Nat) : (xs.flatMap enc).drop (m * s) = (xs.drop m).flatMap enc := by
  induction xs generalizing m with
  | nil => simp
  | cons x xs ih =>
    cases m with
    | zero => simp
    | succ m => rw [List.drop_succ_cons, List.flatMap_cons, List.drop_append, ← ih, hs, List.drop_of_length_le (by rw [hs, Nat.succ_mul]; omega), List.nil_append, show (m + 1) * s - s = m * s by rw [Nat.succ_mul]; omega]

theorem add_step (ad : Addr) (m j : Nat) (hj : 0 < j) : ad.add (m + j) = ⟨(ad.add m).block, (ad.add m).off + j, none⟩ := by
  unfold Addr.add
  by_cases hm : m = 0
  · subst hm
    simp [show ¬ j = 0 by omega]
  · simp [hm, Nat.add_assoc]

/-- Element k of a slice that reads as a list of structs: its cells, as the walk spells their addresses. -/
theorem Reads.elem {w : World} {B : Nat} {A : Option Addr} {xs : List α} (hs : ∀ x, (enc x).length = s) (h : Reads w B s A xs.length (xs.flatMap enc)) {k : Nat} (hk : k < xs.length) :
    ∃ ad, A = some ad ∧ ad.block < B ∧ (∀ v, (enc xs[k])[0]? = some v → w.cell? (ad.add (k * s)) = some v) ∧
      ∀ j v, 0 < j → (enc xs[k])[j]? = some v → w.cell? ⟨(ad.add (k * s)).block, (ad.add (k * s)).off + j, none⟩ = some v := by
  obtain ⟨ad, e, hb, hc⟩ := h.2 (by omega)
  have hlt : ∀ j v, (enc xs[k])[j]? = some v → j < s := fun j v hv => by
    have := (List.getElem?_eq_some_iff.1 hv).1
    rwa [hs] at this
  refine ⟨ad, e, hb, fun v hv => ?_, fun j v hj hv => ?_⟩
  · have := hc (k * s + 0) v (by rw [flat_get hs xs k 0 (hlt 0 v hv) hk]; exact hv)
    rwa [Nat.add_zero] at this
  · rw [← add_step ad (k * s) j hj]
    exact hc (k * s + j) v (by rw [flat_get hs xs k j (hlt j v hv) hk]; exact hv)
end

/-! ### the things of package api -/
structure Leg where
  f : Int
  t : Int
  a : Int
  q : Int
  n : Int
structure Key where
  acc : Int
  ast : Int
def Leg.cs (x : Leg) : List Value := [.int .i64 x.f, .int .i64 x.t, .int .i64 x.a, .int .i64 x.q, .int .i64 x.n]
def Key.cs (x : Key) : List Value := [.int .i64 x.acc, .int .i64 x.ast]
def legsC (l : List Leg) : List Value := l.flatMap Leg.cs
def keysC (l : List Key) : List Value := l.flatMap Key.cs
theorem Leg.len (x : Leg) : x.cs.length = 5 := rfl
theorem Key.len (x : Key) : x.cs.length = 2 := rfl
theorem legs_at {w : World} {B : Nat} {A : Option Addr} {xs : List Leg} (h : Reads w B 5 A xs.length (legsC xs)) {k : Nat} (hk : k < xs.length) :
    ∃ ad, A = some ad ∧ ad.block < B ∧ w.cell? (ad.add (k * 5)) = some (.int .i64 xs[k].f) ∧ w.cell? ⟨(ad.add (k * 5)).block, (ad.add (k * 5)).off + 1, none⟩ = some (.int .i64 xs[k].t) ∧
      w.cell? ⟨(ad.add (k * 5)).block, (ad.add (k * 5)).off + 2, none⟩ = some (.int .i64 xs[k].a) ∧ w.cell? ⟨(ad.add (k * 5)).block, (ad.add (k * 5)).off + 3, none⟩ = some (.int .i64 xs[k].q) ∧
      w.cell? ⟨(ad.add (k * 5)).block, (ad.add (k * 5)).off + 4, none⟩ = some (.int .i64 xs[k].n) := by
  obtain ⟨ad, e, hb, h0, h1⟩ := Reads.elem Leg.len h hk
  exact ⟨ad, e, hb, h0 _ rfl, h1 1 _ (by omega) rfl, h1 2 _ (by omega) rfl, h1 3 _ (by omega) rfl, h1 4 _ (by omega) rfl⟩
theorem keys_at {w : World} {B : Nat} {A : Option Addr} {xs : List Key} (h : Reads w B 2 A xs.length (keysC xs)) {k : Nat} (hk : k < xs.length) :
    ∃ ad, A = some ad ∧ ad.block < B ∧ w.cell? (ad.add (k * 2)) = some (.int .i64 xs[k].acc) ∧ w.cell? ⟨(ad.add (k * 2)).block, (ad.add (k * 2)).off + 1, none⟩ = some (.int .i64 xs[k].ast) := by
  obtain ⟨ad, e, hb, h0, h1⟩ := Reads.elem Key.len h hk
  exact ⟨ad, e, hb, h0 _ rfl, h1 1 _ (by omega) rfl⟩
end Go.Proofs.YtflkddllofeiaaaGreatDoor
