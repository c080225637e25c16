/- Versions by rising numbers, in plain Lean. -/
import Derived.WalkKit
namespace Go.Proofs.YtflkddllofeiaaaGreatDoor
set_option linter.unusedSimpArgs false
set_option linter.unusedVariables false

/-- One version. -/
structure Ver (V : Type) where
  n : Int
  v : V
section
variable {V : Type} {L : List (Ver V)}
def UpV (L : List (Ver V)) : Prop := L.Pairwise (fun x y => x.n < y.n) ∧ ∀ x ∈ L, 0 ≤ x.n
/-- How many versions have a number not above n. -/
def leN (L : List (Ver V)) (n : Int) : Nat := (L.filter (fun x => decide (x.n ≤ n))).length
theorem leN_le (L : List (Ver V)) (n : Int) : leN L n ≤ L.length := List.length_filter_le _ _
theorem le_split {n : Int} {i : Nat} (hi : i ≤ L.length) (h1 : ∀ k (hk : k < L.length), k < i → L[k].n ≤ n) (h2 : ∀ k (hk : k < L.length), i ≤ k → n < L[k].n) : leN L n = i := by
  unfold leN
  have e := List.take_append_drop i L
  conv => lhs; rw [← e]
  rw [List.filter_append, List.filter_eq_self.2, List.filter_eq_nil_iff.2]
  · simp; omega
  · intro x hx
    obtain ⟨k, hk, rfl⟩ := List.getElem_of_mem hx
    simp at hk
    have := h2 (i + k) (by omega) (by omega)
    simp [List.getElem_drop]
    omega
  · intro x hx
    obtain ⟨k, hk, rfl⟩ := List.getElem_of_mem hx
    simp at hk
    have := h1 k (by omega) (by omega)
    simp
    omega
theorem UpV.lt (h : UpV L) {i j : Nat} (hij : i < j) (hj : j < L.length) : L[i].n < L[j].n := (List.pairwise_iff_getElem.1 h.1) i j (by omega) hj hij
theorem UpV.le (h : UpV L) {i j : Nat} (hij : i ≤ j) (hj : j < L.length) : L[i].n ≤ L[j].n := by
  rcases Nat.lt_or_ge i j with h1 | h1
  · exact Int.le_of_lt (h.lt h1 hj)
  · obtain rfl : i = j := by omega
    exact Int.le_refl _
theorem leN_lt (h : UpV L) {n : Int} {k : Nat} (hk : k < L.length) : k < leN L n ↔ L[k].n ≤ n := by
  have key : ∀ i, i ≤ L.length → (∀ k (hk : k < L.length), k < i → L[k].n ≤ n) → (∀ k (hk : k < L.length), i ≤ k → n < L[k].n) → (k < leN L n ↔ L[k].n ≤ n) := by
    intro i hi h1 h2
    rw [le_split hi h1 h2]
    constructor
    · exact h1 k hk
    · intro h3
      rcases Nat.lt_or_ge k i with h4 | h4
      · exact h4
      · have := h2 k hk h4; omega
  -- the first place above n
  have ex : ∃ i, i ≤ L.length ∧ (∀ k (hk : k < L.length), k < i → L[k].n ≤ n) ∧ (∀ k (hk : k < L.length), i ≤ k → n < L[k].n) := by
    have hind : ∀ m, m ≤ L.length → ∃ i, i ≤ m ∧ (∀ k (hk : k < L.length), k < i → L[k].n ≤ n) ∧ (∀ k (hk : k < L.length), i ≤ k → k < m → n < L[k].n) := by
      intro m
      induction m with
      | zero => intro _; exact ⟨0, by omega, fun k _ h => absurd h (by omega), fun k _ _ h => absurd h (by omega)⟩
      | succ m ih =>
        intro hm
        obtain ⟨i, h1, h2, h3⟩ := ih (by omega)
        by_cases hx : L[m].n ≤ n
        · refine ⟨m + 1, by omega, fun k hk hkm => ?_, fun k hk h4 h5 => absurd h5 (by omega)⟩
          have := h.le (i := k) (j := m) (by omega) (by omega)
          omega
        · refine ⟨i, by omega, h2, fun k hk h4 h5 => ?_⟩
          rcases Nat.lt_or_ge k m with h6 | h6
          · exact h3 k hk h4 h6
          · obtain rfl : k = m := by omega
            omega
    obtain ⟨i, h1, h2, h3⟩ := hind L.length (Nat.le_refl _)
    exact ⟨i, h1, h2, fun k hk h4 => h3 k hk h4 hk⟩
  obtain ⟨i, hi, h1, h2⟩ := ex
  exact key i hi h1 h2

/-- The last number, -1 of none. -/
def lastNo (L : List (Ver V)) : Int := (L.getLast?.map (·.n)).getD (-1)
theorem lastNo_nil : lastNo ([] : List (Ver V)) = -1 := rfl
theorem lastNo_pos (h : 0 < L.length) : lastNo L = L[L.length - 1].n := by
  unfold lastNo
  rw [List.getLast?_eq_getElem?, List.getElem?_eq_getElem (by omega)]
  rfl
theorem lastNo_snoc (L : List (Ver V)) (x : Ver V) : lastNo (L ++ [x]) = x.n := by simp [lastNo]
theorem UpV.le_last (h : UpV L) {x : Ver V} (hx : x ∈ L) : x.n ≤ lastNo L := by
  obtain ⟨k, hk, rfl⟩ := List.getElem_of_mem hx
  rw [lastNo_pos (by omega)]
  exact h.le (by omega) (by omega)
theorem UpV.snoc (h : UpV L) {x : Ver V} (hx : lastNo L < x.n) (h0 : 0 ≤ x.n) : UpV (L ++ [x]) := by
  refine ⟨List.pairwise_append.2 ⟨h.1, by simp, fun y hy z hz => ?_⟩, fun y hy => ?_⟩
  · simp at hz; subst hz
    have := h.le_last hy; omega
  · rcases List.mem_append.1 hy with hy | hy
    · exact h.2 y hy
    · simp at hy; subst hy; exact h0
theorem UpV.drop (h : UpV L) (k : Nat) : UpV (L.drop k) := ⟨List.Pairwise.sublist (List.drop_sublist k L) h.1, fun x hx => h.2 x (List.mem_of_mem_drop hx)⟩
theorem UpV.nil : UpV ([] : List (Ver V)) := ⟨by simp, by simp⟩
theorem lastNo_ge (h : UpV L) : -1 ≤ lastNo L := by
  by_cases h0 : 0 < L.length
  · rw [lastNo_pos h0]; have := h.2 L[L.length - 1] (by simp); omega
  · have : L = [] := List.eq_nil_of_length_eq_zero (by omega)
    subst this; simp [lastNo]

/-! ### what the calls do -/
/-- May a version of the number n be put in? -/
def mayPut (L : List (Ver V)) (n : Int) : Bool := decide (lastNo L < n ∧ 0 ≤ n)
def putL (L : List (Ver V)) (x : Ver V) : List (Ver V) := if mayPut L x.n then L ++ [x] else L
def putE (L : List (Ver V)) (n : Int) : Int := if mayPut L n then 0 else 1
def pruneL (L : List (Ver V)) (n : Int) : List (Ver V) := if leN L n < 2 then L else L.drop (leN L n - 1)
def pruneN (L : List (Ver V)) (n : Int) : Int := if leN L n < 2 then 0 else (leN L n : Int) - 1
theorem UpV.put (h : UpV L) (x : Ver V) : UpV (putL L x) := by
  unfold putL
  split
  · rename_i hm
    simp [mayPut] at hm
    exact h.snoc hm.1 hm.2
  · exact h
theorem UpV.prune (h : UpV L) (n : Int) : UpV (pruneL L n) := by
  unfold pruneL
  split
  · exact h
  · exact h.drop _
theorem putL_len (L : List (Ver V)) (x : Ver V) : (putL L x).length ≤ L.length + 1 := by unfold putL; split <;> simp
theorem pruneL_len (L : List (Ver V)) (n : Int) : (pruneL L n).length ≤ L.length := by unfold pruneL; split <;> simp
end
end Go.Proofs.YtflkddllofeiaaaGreatDoor
