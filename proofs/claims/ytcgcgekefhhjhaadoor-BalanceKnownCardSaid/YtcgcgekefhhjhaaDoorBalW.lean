/- The document's way to set a mark, and the search for a name's place, in plain Lean. -/
import Derived.Test.YtcgcgekefhhjhaaDoorBalS
namespace Go.Proofs.YtcgcgekefhhjhaaDoor
set_option linter.unusedSimpArgs false
set_option linter.unusedVariables false

def stepW (n q : Int) (s : Bool × List Mk) (x : Mk) : Bool × List Mk :=
  let s1 := if s.1 = false ∧ n ≤ x.m then (true, s.2 ++ [⟨n, q⟩]) else s
  (s1.1, if x.m = n then s1.2 else s1.2 ++ [x])
def withTo (l : List Mk) (n q : Int) (k : Nat) : Bool × List Mk := (l.take k).foldl (stepW n q) (decide (q = 0), [])
theorem withTo_zero (l : List Mk) (n q : Int) : withTo l n q 0 = (decide (q = 0), []) := rfl
theorem withTo_succ {l : List Mk} {k : Nat} (hk : k < l.length) (n q : Int) : withTo l n q (k + 1) = stepW n q (withTo l n q k) l[k] := by
  unfold withTo
  rw [List.take_succ_eq_append_getElem hk, List.foldl_append]
  rfl
theorem foldW_true (n q : Int) (l acc : List Mk) : l.foldl (stepW n q) (true, acc) = (true, acc ++ l.filter (fun x => decide (x.m ≠ n))) := by
  induction l generalizing acc with
  | nil => simp
  | cons x l ih =>
    have hs : stepW n q (true, acc) x = (true, if x.m = n then acc else acc ++ [x]) := by simp [stepW]
    rw [List.foldl_cons, hs, ih]
    by_cases h : x.m = n
    · rw [if_pos h, List.filter_cons_of_neg (by simp [h])]
    · rw [if_neg h, List.filter_cons_of_pos (by simp [h])]; simp
theorem foldW_false (n q : Int) (l acc : List Mk) (hu : l.Pairwise (fun x y => x.m < y.m)) :
    (if (l.foldl (stepW n q) (false, acc)).1 then (l.foldl (stepW n q) (false, acc)).2 else (l.foldl (stepW n q) (false, acc)).2 ++ [⟨n, q⟩]) = acc ++ (l.filter (fun x => decide (x.m < n)) ++ (⟨n, q⟩ :: l.filter (fun x => decide (n < x.m)))) := by
  induction l generalizing acc with
  | nil => simp
  | cons x l ih =>
    obtain ⟨h1, h2⟩ := up_cons hu
    rw [List.foldl_cons]
    by_cases hn : n ≤ x.m
    · have hs : stepW n q (false, acc) x = (true, if x.m = n then acc ++ [⟨n, q⟩] else acc ++ [⟨n, q⟩] ++ [x]) := by simp [stepW, hn]
      rw [hs]
      have h3 : l.filter (fun x => decide (x.m < n)) = [] := List.filter_eq_nil_iff.2 fun y hy => by have := h1 y hy; simp; omega
      have h4 : l.filter (fun x => decide (x.m ≠ n)) = l.filter (fun x => decide (n < x.m)) := List.filter_congr fun y hy => by have := h1 y hy; rw [decide_eq_decide]; omega
      rw [foldW_true, List.filter_cons_of_neg (by simp; omega), h3, h4]
      by_cases he : x.m = n
      · rw [if_pos he, List.filter_cons_of_neg (by simp; omega)]; simp
      · rw [if_neg he, List.filter_cons_of_pos (by simp; omega)]; simp
    · have hs : stepW n q (false, acc) x = (false, acc ++ [x]) := by simp [stepW, hn]; omega
      rw [hs]
      have := ih (acc ++ [x]) h2
      rw [this, List.filter_cons_of_pos (by simp; omega), List.filter_cons_of_neg (by simp; omega)]
      simp
def withL (l : List Mk) (n q : Int) : List Mk := if (withTo l n q l.length).1 then (withTo l n q l.length).2 else (withTo l n q l.length).2 ++ [⟨n, q⟩]
theorem withL_setQ {l : List Mk} (hu : l.Pairwise (fun x y => x.m < y.m)) (n q : Int) : withL l n q = setQ l n q := by
  unfold withL withTo setQ
  rw [List.take_length]
  by_cases hq : q = 0
  · rw [if_pos hq, decide_eq_true hq, foldW_true]
    simp only [if_true, List.nil_append]
    induction l with
    | nil => rfl
    | cons x l ih =>
      obtain ⟨h1, h2⟩ := up_cons hu
      rcases Int.lt_trichotomy x.m n with h | h | h
      · rw [List.filter_cons_of_pos (by simp; omega), List.filter_cons_of_pos (by simpa using h), List.filter_cons_of_neg (by simp; omega), List.cons_append, ih h2]
      · rw [List.filter_cons_of_neg (by simp; omega), List.filter_cons_of_neg (by simp; omega), List.filter_cons_of_neg (by simp; omega), ih h2]
      · have h3 : l.filter (fun x => decide (x.m < n)) = [] := List.filter_eq_nil_iff.2 fun y hy => by have := h1 y hy; simp; omega
        have h4 := ih h2
        rw [h3] at h4
        rw [List.filter_cons_of_pos (by simp; omega), List.filter_cons_of_neg (by simp; omega), List.filter_cons_of_pos (by simpa using h), h3, h4]
        simp
  · rw [if_neg hq, decide_eq_false hq]
    have := foldW_false n q l [] hu
    simp only [List.nil_append] at this
    exact this

/-- The place of the first mark whose name is not below n. -/
def placeOf (l : List Mk) (n : Int) : Nat := (l.filter (fun x => decide (x.m < n))).length
theorem filter_take {l : List Mk} (n : Int) {i : Nat} (hi : i ≤ l.length) (h1 : ∀ k (hk : k < l.length), k < i → l[k].m < n) (h2 : ∀ k (hk : k < l.length), i ≤ k → n ≤ l[k].m) : l.filter (fun x => decide (x.m < n)) = l.take i := by
  have e := List.take_append_drop i l
  conv => lhs; rw [← e]
  rw [List.filter_append, List.filter_eq_self.2, List.filter_eq_nil_iff.2]
  · simp
  · intro x hx
    obtain ⟨k, hk, rfl⟩ := List.getElem_of_mem hx
    simp at hk
    have := h2 (i + k) (by omega) (by omega)
    simp [List.getElem_drop]
    omega
  · intro x hx
    obtain ⟨k, hk, rfl⟩ := List.getElem_of_mem hx
    simp at hk
    have := h1 k (by omega) (by omega)
    simp
    omega
theorem place_eq {l : List Mk} (n : Int) {i : Nat} (hi : i ≤ l.length) (h1 : ∀ k (hk : k < l.length), k < i → l[k].m < n) (h2 : ∀ k (hk : k < l.length), i ≤ k → n ≤ l[k].m) : placeOf l n = i := by
  unfold placeOf
  rw [filter_take n hi h1 h2]
  simp; omega
theorem filter_drop {l : List Mk} (n : Int) {i : Nat} (hu : l.Pairwise (fun x y => x.m < y.m)) (hi : i ≤ l.length) (h1 : ∀ k (hk : k < l.length), k < i → l[k].m < n) (h2 : ∀ k (hk : k < l.length), i ≤ k → n ≤ l[k].m) :
    l.filter (fun x => decide (n < x.m)) = l.drop (if (l[i]?).map (·.m) = some n then i + 1 else i) := by
  by_cases hf : (l[i]?).map (·.m) = some n
  · rw [if_pos hf]
    have hil : i < l.length := by
      rcases Nat.lt_or_ge i l.length with h | h
      · exact h
      · simp [List.getElem?_eq_none h] at hf
    have hn : l[i].m = n := by simpa [hil] using hf
    have e := List.take_append_drop (i + 1) l
    conv => lhs; rw [← e]
    rw [List.filter_append, List.filter_eq_nil_iff.2, List.filter_eq_self.2]
    · simp
    · intro x hx
      obtain ⟨k, hk, rfl⟩ := List.getElem_of_mem hx
      simp at hk
      have := (List.pairwise_iff_getElem.1 hu) i (i + 1 + k) hil (by omega) (by omega)
      simp [List.getElem_drop]
      omega
    · intro x hx
      obtain ⟨k, hk, rfl⟩ := List.getElem_of_mem hx
      simp at hk
      simp
      rcases Nat.lt_or_ge k i with h | h
      · have := h1 k (by omega) h; omega
      · obtain rfl : k = i := by omega
        omega
  · rw [if_neg hf]
    have e := List.take_append_drop i l
    conv => lhs; rw [← e]
    rw [List.filter_append, List.filter_eq_nil_iff.2, List.filter_eq_self.2]
    · simp
    · intro x hx
      obtain ⟨k, hk, rfl⟩ := List.getElem_of_mem hx
      simp at hk
      have h3 := h2 (i + k) (by omega) (by omega)
      have h4 : l[i + k].m ≠ n := by
        intro he
        cases k with
        | zero => exact hf (by simp [show i < l.length by omega]; exact he)
        | succ k =>
          have h5 := h2 i (by omega) (by omega)
          have := (List.pairwise_iff_getElem.1 hu) i (i + (k + 1)) (by omega) (by omega) (by omega)
          omega
      simp [List.getElem_drop]
      omega
    · intro x hx
      obtain ⟨k, hk, rfl⟩ := List.getElem_of_mem hx
      simp at hk
      have := h1 k (by omega) (by omega)
      simp
      omega
/-- Is a mark of the name at its place? -/
theorem found_iff {l : List Mk} (n : Int) (hu : l.Pairwise (fun x y => x.m < y.m)) (he : ∀ x ∈ l, 1 ≤ x.q) {i : Nat} (hi : i ≤ l.length) (h1 : ∀ k (hk : k < l.length), k < i → l[k].m < n) (h2 : ∀ k (hk : k < l.length), i ≤ k → n ≤ l[k].m) :
    ((l[i]?).map (·.m) = some n ↔ getQ l n ≠ 0) ∧ ((l[i]?).map (·.m) = some n → (l[i]?).map (·.q) = some (getQ l n)) := by
  have hm : ∀ (hil : i < l.length), l[i].m = n → getQ l n = l[i].q := fun hil h => by rw [← h]; exact getQ_mem hu (by simp)
  constructor
  · constructor
    · intro h
      have hil : i < l.length := by
        rcases Nat.lt_or_ge i l.length with h3 | h3
        · exact h3
        · simp [List.getElem?_eq_none h3] at h
      have hn : l[i].m = n := by simpa [hil] using h
      rw [hm hil hn]
      have := he l[i] (by simp)
      omega
    · intro h
      have h3 : ¬ ∀ x ∈ l, x.m ≠ n := fun hn => h (getQ_none hn)
      simp only [Classical.not_forall, Classical.not_not] at h3
      obtain ⟨y, hy, hyn⟩ := h3
      obtain ⟨k, hk, rfl⟩ := List.getElem_of_mem hy
      have hki : i ≤ k := by
        rcases Nat.lt_or_ge k i with h4 | h4
        · have := h1 k hk h4; omega
        · exact h4
      have hil : i < l.length := by omega
      have h5 := h2 i hil (Nat.le_refl _)
      have : k = i := by
        rcases Nat.lt_or_ge i k with h4 | h4
        · have := (List.pairwise_iff_getElem.1 hu) i k hil hk h4; omega
        · omega
      subst this
      simp [hil, hyn]
  · intro h
    have hil : i < l.length := by
      rcases Nat.lt_or_ge i l.length with h3 | h3
      · exact h3
      · simp [List.getElem?_eq_none h3] at h
    have hn : l[i].m = n := by simpa [hil] using h
    rw [hm hil hn]
    simp [hil]
end Go.Proofs.YtcgcgekefhhjhaaDoor
