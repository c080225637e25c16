/- The positions of package balance as lists: plain Lean, no program. -/
import Derived.WalkKit
namespace Go.Proofs.YtcgcgekefhhjhaaDoor
set_option linter.unusedSimpArgs false
set_option linter.unusedVariables false

/-- One mark. -/
structure Mk where
  m : Int
  q : Int
def MaxA : Int := 9223372036854775807
def sumQ (l : List Mk) : Int := (l.map (·.q)).sum
theorem sumQ_nil : sumQ [] = 0 := rfl
theorem sumQ_cons (x : Mk) (l : List Mk) : sumQ (x :: l) = x.q + sumQ l := by simp [sumQ]
theorem sumQ_append (l m : List Mk) : sumQ (l ++ m) = sumQ l + sumQ m := by simp [sumQ]
/-- The first place below n at which p holds; n: none. -/
def firstB (p : Nat → Bool) (n : Nat) : Nat := ((List.range n).find? p).getD n
theorem firstB_eq {p : Nat → Bool} {n k : Nat} (hk : k < n) (hp : p k = true) (hb : ∀ j, j < k → p j = false) : firstB p n = k := by
  unfold firstB
  rw [List.find?_range_eq_some.2 ⟨hp, by simpa using hk, fun j hj => by simpa using hb j hj⟩]
  rfl
theorem firstB_none {p : Nat → Bool} {n : Nat} (hb : ∀ j, j < n → p j = false) : firstB p n = n := by
  unfold firstB
  rw [List.find?_eq_none.2 (fun j hj => by simpa using hb j (by simpa using hj))]
  rfl
theorem firstB_le (p : Nat → Bool) (n : Nat) : firstB p n ≤ n := by
  unfold firstB
  cases h : (List.range n).find? p with
  | none => simp
  | some k => have := List.mem_of_find?_eq_some h; simp at this; simp; omega
theorem firstB_lt {p : Nat → Bool} {n : Nat} (h : firstB p n < n) : p (firstB p n) = true := by
  unfold firstB at *
  cases hf : (List.range n).find? p with
  | none => simp [hf] at h
  | some k => have := List.find?_some hf; simpa using this
theorem firstB_before {p : Nat → Bool} {n j : Nat} (h : j < firstB p n) : p j = false := by
  unfold firstB at h
  cases hf : (List.range n).find? p with
  | none =>
    rw [hf] at h
    have := List.find?_eq_none.1 hf j (by simpa using h)
    simpa using this
  | some k =>
    rw [hf] at h
    have := (List.find?_range_eq_some.1 hf).2.2 j (by simpa using h)
    simpa using this

/-- The name of the mark ahead of place k, 0 ahead of the first. -/
def lastN (l : List Mk) (k : Nat) : Int := if k = 0 then 0 else ((l[k - 1]?).map (·.m)).getD 0
def sumTo (a : Int) (l : List Mk) (k : Nat) : Int := a + sumQ (l.take k)
def badB (l : List Mk) (k : Nat) : Bool := match l[k]? with
  | some x => decide (x.m ≤ lastN l k ∨ 65536 < x.m ∨ x.q < 1)
  | none => false
def overB (a : Int) (l : List Mk) (k : Nat) : Bool := match l[k]? with
  | some x => decide (MaxA - sumTo a l k < x.q)
  | none => false
/-- What is wrong with a position: the error's number, its place. -/
def posCheck (a : Int) (l : List Mk) : Int × Int :=
  if a < 0 then (1, -1) else if 8 < l.length then (5, 8) else
  if firstB (badB l) l.length < l.length then (1, firstB (badB l) l.length) else
  if firstB (overB a l) l.length < l.length then (9, firstB (overB a l) l.length) else (0, 0)

/-- A position that is right. -/
structure Right (a : Int) (l : List Mk) : Prop where
  a0 : 0 ≤ a
  len : l.length ≤ 8
  up : l.Pairwise (fun x y => x.m < y.m)
  each : ∀ x ∈ l, 1 ≤ x.m ∧ x.m ≤ 65536 ∧ 1 ≤ x.q
  sum : a + sumQ l ≤ MaxA

theorem lastN_succ {l : List Mk} {k : Nat} (hk : k < l.length) : lastN l (k + 1) = l[k].m := by
  simp [lastN, hk]
theorem sumTo_succ (a : Int) {l : List Mk} {k : Nat} (hk : k < l.length) : sumTo a l (k + 1) = sumTo a l k + l[k].q := by
  unfold sumTo
  rw [List.take_succ_eq_append_getElem hk, sumQ_append, sumQ_cons, sumQ_nil]
  omega
theorem sumTo_zero (a : Int) (l : List Mk) : sumTo a l 0 = a := by simp [sumTo, sumQ]
theorem sumTo_all (a : Int) (l : List Mk) : sumTo a l l.length = a + sumQ l := by simp [sumTo]
theorem sumQ_nonneg {l : List Mk} (h : ∀ x ∈ l, 1 ≤ x.q) : 0 ≤ sumQ l := by
  induction l with
  | nil => simp [sumQ]
  | cons x l ih =>
    rw [sumQ_cons]
    have h1 := h x (by simp)
    have h2 := ih fun y hy => h y (by simp [hy])
    omega

theorem up_of_scan {l : List Mk} (h : ∀ k, k < l.length → badB l k = false) : l.Pairwise (fun x y => x.m < y.m) ∧ ∀ x ∈ l, 1 ≤ x.m ∧ x.m ≤ 65536 ∧ 1 ≤ x.q := by
  have hs : ∀ k (hk : k < l.length), lastN l k < l[k].m ∧ l[k].m ≤ 65536 ∧ 1 ≤ l[k].q := by
    intro k hk
    have := h k hk
    simp [badB, hk] at this
    omega
  have hpos : ∀ k (hk : k < l.length), 1 ≤ l[k].m := by
    intro k hk
    induction k with
    | zero => have := (hs 0 hk).1; simp [lastN] at this; omega
    | succ k ih =>
      have h1 := (hs (k + 1) hk).1
      rw [lastN_succ (by omega)] at h1
      have := ih (by omega)
      omega
  have hlt : ∀ i j (hi : i < l.length) (hj : j < l.length), i < j → l[i].m < l[j].m := by
    intro i j hi hj hij
    induction j with
    | zero => omega
    | succ j ih =>
      have h1 := (hs (j + 1) hj).1
      rw [lastN_succ (by omega)] at h1
      rcases Nat.lt_or_ge i j with h2 | h2
      · have := ih (by omega) h2; omega
      · obtain rfl : i = j := by omega
        exact h1
  refine ⟨List.pairwise_iff_getElem.2 hlt, fun x hx => ?_⟩
  obtain ⟨k, hk, rfl⟩ := List.getElem_of_mem hx
  exact ⟨hpos k hk, (hs k hk).2⟩

theorem scan_of_up {l : List Mk} (hu : l.Pairwise (fun x y => x.m < y.m)) (he : ∀ x ∈ l, 1 ≤ x.m ∧ x.m ≤ 65536 ∧ 1 ≤ x.q) (k : Nat) : badB l k = false := by
  unfold badB
  by_cases hk : k < l.length
  · have h1 := he l[k] (by simp)
    have h2 : lastN l k < l[k].m := by
      cases k with
      | zero => simp [lastN]; omega
      | succ k => rw [lastN_succ (by omega)]; exact (List.pairwise_iff_getElem.1 hu) k (k + 1) (by omega) hk (by omega)
    simp [hk]
    omega
  · simp [hk]

theorem right_of_check {a : Int} {l : List Mk} (ha : a ≤ MaxA) (h : (posCheck a l).1 = 0) : Right a l := by
  unfold posCheck at h
  split at h; · simp at h
  split at h; · simp at h
  split at h; · simp at h
  split at h; · simp at h
  rename_i h1 h2 h3 h4
  obtain ⟨hu, he⟩ := up_of_scan (l := l) fun k hk => firstB_before (n := l.length) (by have := firstB_le (badB l) l.length; omega)
  refine ⟨by omega, by omega, hu, he, ?_⟩
  have ho : ∀ k, k < l.length → overB a l k = false := fun k hk => firstB_before (n := l.length) (by have := firstB_le (overB a l) l.length; omega)
  have hk : ∀ k, k ≤ l.length → sumTo a l k ≤ MaxA := by
    intro k hk
    cases k with
    | zero => rw [sumTo_zero]; exact ha
    | succ k =>
      have := ho k (by omega)
      have hlt : k < l.length := by omega
      simp [overB, hlt] at this
      rw [sumTo_succ a hlt]
      omega
  rw [← sumTo_all]
  exact hk _ (Nat.le_refl _)

theorem sumTo_mono {a : Int} {l : List Mk} (he : ∀ x ∈ l, 1 ≤ x.q) (k : Nat) : sumTo a l k ≤ a + sumQ l := by
  have h1 := sumQ_append (l.take k) (l.drop k)
  rw [List.take_append_drop] at h1
  have h2 := sumQ_nonneg (l := l.drop k) fun x hx => he x (List.mem_of_mem_drop hx)
  unfold sumTo
  omega

theorem check_of_right {a : Int} {l : List Mk} (h : Right a l) : posCheck a l = (0, 0) := by
  unfold posCheck
  rw [if_neg (by have := h.a0; omega), if_neg (by have := h.len; omega)]
  rw [if_neg (by rw [firstB_none fun j _ => scan_of_up h.up h.each j]; omega)]
  rw [if_neg]
  rw [firstB_none]
  · omega
  · intro j hj
    have h2 := sumTo_mono (a := a) (l := l) (fun x hx => (h.each x hx).2.2) (j + 1)
    rw [sumTo_succ a hj] at h2
    have h3 := h.sum
    simp [overB, hj]
    omega
theorem check_zero_iff {a : Int} {l : List Mk} (ha : a ≤ MaxA) : (posCheck a l).1 = 0 ↔ Right a l :=
  ⟨right_of_check ha, fun h => by rw [check_of_right h]⟩

/-- What is set aside under a name. -/
def getQ (l : List Mk) (n : Int) : Int := ((l.find? fun x => x.m == n).map (·.q)).getD 0
/-- The marks with so much under a name. -/
def setQ (l : List Mk) (n q : Int) : List Mk := l.filter (fun x => decide (x.m < n)) ++ ((if q = 0 then [] else [⟨n, q⟩]) ++ l.filter (fun x => decide (n < x.m)))

section
variable {l : List Mk}
theorem up_cons {x : Mk} (h : (x :: l).Pairwise (fun x y => x.m < y.m)) : (∀ y ∈ l, x.m < y.m) ∧ l.Pairwise (fun x y => x.m < y.m) := List.pairwise_cons.1 h
theorem getQ_nil (n : Int) : getQ [] n = 0 := rfl
theorem getQ_cons (x : Mk) (l : List Mk) (n : Int) : getQ (x :: l) n = if x.m = n then x.q else getQ l n := by
  unfold getQ
  by_cases h : x.m = n
  · simp [h]
  · simp [h]
theorem getQ_none {n : Int} (h : ∀ x ∈ l, x.m ≠ n) : getQ l n = 0 := by
  induction l with
  | nil => rfl
  | cons x l ih => rw [getQ_cons, if_neg (h x (by simp)), ih fun y hy => h y (by simp [hy])]
theorem getQ_mem (hu : l.Pairwise (fun x y => x.m < y.m)) {x : Mk} (hx : x ∈ l) : getQ l x.m = x.q := by
  induction l with
  | nil => simp at hx
  | cons y l ih =>
    obtain ⟨h1, h2⟩ := up_cons hu
    rw [getQ_cons]
    rcases List.mem_cons.1 hx with rfl | hx
    · rw [if_pos rfl]
    · rw [if_neg (by have := h1 x hx; omega), ih h2 hx]
theorem getQ_pos (he : ∀ x ∈ l, 1 ≤ x.q) {n : Int} : getQ l n = 0 ↔ ∀ x ∈ l, x.m ≠ n := by
  refine ⟨fun h => ?_, getQ_none⟩
  induction l with
  | nil => simp
  | cons y l ih =>
    rw [getQ_cons] at h
    split at h
    · have := he y (by simp); omega
    · rename_i hne
      intro x hx
      rcases List.mem_cons.1 hx with rfl | hx
      · exact hne
      · exact ih (fun z hz => he z (by simp [hz])) h x hx
theorem getQ_nonneg (he : ∀ x ∈ l, 1 ≤ x.q) (n : Int) : 0 ≤ getQ l n := by
  induction l with
  | nil => simp [getQ]
  | cons y l ih =>
    rw [getQ_cons]
    split
    · have := he y (by simp); omega
    · exact ih fun z hz => he z (by simp [hz])
theorem getQ_le (he : ∀ x ∈ l, 1 ≤ x.q) (n : Int) : getQ l n ≤ sumQ l := by
  induction l with
  | nil => simp [getQ, sumQ]
  | cons y l ih =>
    rw [getQ_cons, sumQ_cons]
    have h1 := he y (by simp)
    have h2 := ih fun z hz => he z (by simp [hz])
    have h3 := sumQ_nonneg (l := l) fun z hz => he z (by simp [hz])
    split <;> omega

theorem mem_setQ {n q : Int} {x : Mk} : x ∈ setQ l n q ↔ (x ∈ l ∧ x.m ≠ n) ∨ (q ≠ 0 ∧ x = ⟨n, q⟩) := by
  unfold setQ
  simp only [List.mem_append, List.mem_filter, decide_eq_true_eq]
  by_cases hq : q = 0
  · simp [hq]
    constructor
    · rintro (⟨h1, h2⟩ | ⟨h1, h2⟩) <;> exact ⟨h1, by omega⟩
    · rintro ⟨h1, h2⟩
      rcases Int.lt_or_gt_of_ne h2 with h | h
      · exact .inl ⟨h1, h⟩
      · exact .inr ⟨h1, h⟩
  · simp [hq]
    constructor
    · rintro (⟨h1, h2⟩ | h | ⟨h1, h2⟩)
      · exact .inl ⟨h1, by omega⟩
      · exact .inr h
      · exact .inl ⟨h1, by omega⟩
    · rintro (⟨h1, h2⟩ | h)
      · rcases Int.lt_or_gt_of_ne h2 with h | h
        · exact .inl ⟨h1, h⟩
        · exact .inr (.inr ⟨h1, h⟩)
      · exact .inr (.inl h)
theorem setQ_up (hu : l.Pairwise (fun x y => x.m < y.m)) (n q : Int) : (setQ l n q).Pairwise (fun x y => x.m < y.m) := by
  unfold setQ
  refine List.pairwise_append.2 ⟨hu.filter _, List.pairwise_append.2 ⟨?_, hu.filter _, ?_⟩, ?_⟩
  · split <;> simp
  · intro x hx y hy
    have hy2 : n < y.m := by simpa using (List.mem_filter.1 hy).2
    split at hx
    · simp at hx
    · simp at hx; subst hx; exact hy2
  · intro x hx y hy
    have hx2 : x.m < n := by simpa using (List.mem_filter.1 hx).2
    rcases List.mem_append.1 hy with hy | hy
    · split at hy
      · simp at hy
      · simp at hy; subst hy; exact hx2
    · have hy2 : n < y.m := by simpa using (List.mem_filter.1 hy).2
      omega
theorem getQ_setQ_self (hu : l.Pairwise (fun x y => x.m < y.m)) (n q : Int) : getQ (setQ l n q) n = q := by
  by_cases hq : q = 0
  · rw [hq, getQ_none]
    intro x hx
    rcases mem_setQ.1 hx with h | h
    · exact h.2
    · exact absurd rfl h.1
  · have h := getQ_mem (setQ_up hu n q) (x := ⟨n, q⟩) (mem_setQ.2 (.inr ⟨hq, rfl⟩))
    exact h
/-- Two lists of rising names with the same marks are one. -/
theorem up_ext {l m : List Mk} (hl : l.Pairwise (fun x y => x.m < y.m)) (hm : m.Pairwise (fun x y => x.m < y.m)) (h : ∀ x, x ∈ l ↔ x ∈ m) : l = m := by
  induction l generalizing m with
  | nil =>
    cases m with
    | nil => rfl
    | cons y m => have := (h y).2 (by simp); simp at this
  | cons x l ih =>
    cases m with
    | nil => have := (h x).1 (by simp); simp at this
    | cons y m =>
      obtain ⟨h1, h2⟩ := up_cons hl
      obtain ⟨h3, h4⟩ := up_cons hm
      have hxy : x = y := by
        rcases List.mem_cons.1 ((h x).1 (by simp)) with hx | hx
        · exact hx
        · rcases List.mem_cons.1 ((h y).2 (by simp)) with hy | hy
          · exact hy.symm
          · have := h1 y hy; have := h3 x hx; omega
      subst hxy
      congr 1
      refine ih h2 h4 fun z => ⟨fun hz => ?_, fun hz => ?_⟩
      · rcases List.mem_cons.1 ((h z).1 (by simp [hz])) with rfl | h5
        · have := h1 z hz; omega
        · exact h5
      · rcases List.mem_cons.1 ((h z).2 (by simp [hz])) with rfl | h5
        · have := h3 z hz; omega
        · exact h5
theorem getQ_setQ_other (hu : l.Pairwise (fun x y => x.m < y.m)) {n q k : Int} (hk : k ≠ n) : getQ (setQ l n q) k = getQ l k := by
  by_cases h : ∃ x ∈ l, x.m = k
  · obtain ⟨x, hx, rfl⟩ := h
    rw [getQ_mem hu hx, getQ_mem (setQ_up hu n q) (mem_setQ.2 (.inl ⟨hx, hk⟩))]
  · rw [getQ_none (l := l) fun x hx he => h ⟨x, hx, he⟩, getQ_none]
    intro x hx he
    rcases mem_setQ.1 hx with h1 | h1
    · exact h ⟨x, h1.1, he⟩
    · have := h1.2; subst this; exact hk he.symm
theorem setQ_getQ (hu : l.Pairwise (fun x y => x.m < y.m)) (he : ∀ x ∈ l, 1 ≤ x.q) (n : Int) : setQ l n (getQ l n) = l := by
  refine up_ext (setQ_up hu _ _) hu fun x => ?_
  rw [mem_setQ]
  constructor
  · rintro (h | ⟨h1, rfl⟩)
    · exact h.1
    · have h2 : ¬ ∀ x ∈ l, x.m ≠ n := fun h => h1 ((getQ_pos he).2 h)
      simp only [Classical.not_forall, Classical.not_not] at h2
      obtain ⟨y, hy, rfl⟩ := h2
      rw [getQ_mem hu hy]
      exact hy
  · intro hx
    by_cases hn : x.m = n
    · subst hn
      refine .inr ⟨?_, ?_⟩
      · rw [getQ_mem hu hx]; have := he x hx; omega
      · rw [getQ_mem hu hx]
    · exact .inl ⟨hx, hn⟩
theorem setQ_setQ (n q r : Int) (hu : l.Pairwise (fun x y => x.m < y.m)) : setQ (setQ l n q) n r = setQ l n r := by
  refine up_ext (setQ_up (setQ_up hu _ _) _ _) (setQ_up hu _ _) fun x => ?_
  rw [mem_setQ, mem_setQ, mem_setQ]
  constructor
  · rintro (⟨h1 | h1, h2⟩ | h)
    · exact .inl h1
    · have := h1.2; subst this; exact absurd rfl h2
    · exact .inr h
  · rintro (h | h)
    · exact .inl ⟨.inl h, h.2⟩
    · exact .inr h
theorem sumQ_filter_split (hu : l.Pairwise (fun x y => x.m < y.m)) (n : Int) : sumQ (l.filter (fun x => decide (x.m < n))) + (getQ l n + sumQ (l.filter (fun x => decide (n < x.m)))) = sumQ l := by
  induction l with
  | nil => simp [sumQ, getQ]
  | cons x l ih =>
    obtain ⟨h1, h2⟩ := up_cons hu
    have := ih h2
    rw [getQ_cons, sumQ_cons]
    rcases Int.lt_trichotomy x.m n with h | h | h
    · rw [List.filter_cons_of_pos (by simpa using h), List.filter_cons_of_neg (by simp; omega), if_neg (by omega), sumQ_cons]; omega
    · have h0 : getQ l n = 0 := getQ_none fun y hy => by have := h1 y hy; omega
      rw [List.filter_cons_of_neg (by simp; omega), List.filter_cons_of_neg (by simp; omega), if_pos h]; omega
    · rw [List.filter_cons_of_neg (by simp; omega), List.filter_cons_of_pos (by simpa using h), if_neg (by omega), sumQ_cons]; omega
theorem sumQ_setQ (hu : l.Pairwise (fun x y => x.m < y.m)) (n q : Int) : sumQ (setQ l n q) = sumQ l - getQ l n + q := by
  have h := sumQ_filter_split hu n
  unfold setQ
  rw [sumQ_append, sumQ_append]
  have h2 : sumQ (if q = 0 then [] else [(⟨n, q⟩ : Mk)]) = q := by
    split
    · rename_i h0; simp [sumQ, h0]
    · simp [sumQ]
  omega
theorem setQ_len (hu : l.Pairwise (fun x y => x.m < y.m)) (he : ∀ x ∈ l, 1 ≤ x.q) (n q : Int) : (setQ l n q).length + (if getQ l n = 0 then 0 else 1) = l.length + (if q = 0 then 0 else 1) := by
  have h : (l.filter (fun x => decide (x.m < n))).length + ((if getQ l n = 0 then 0 else 1) + (l.filter (fun x => decide (n < x.m))).length) = l.length := by
    induction l with
    | nil => simp [getQ]
    | cons x l ih =>
      obtain ⟨h1, h2⟩ := up_cons hu
      have := ih h2 (fun y hy => he y (by simp [hy]))
      have hx := he x (by simp)
      rw [getQ_cons, List.length_cons]
      rcases Int.lt_trichotomy x.m n with h | h | h
      · rw [List.filter_cons_of_pos (by simpa using h), List.filter_cons_of_neg (by simp; omega), if_neg (show ¬ x.m = n by omega), List.length_cons]; omega
      · have h0 : getQ l n = 0 := getQ_none fun y hy => by have := h1 y hy; omega
        rw [List.filter_cons_of_neg (by simp; omega), List.filter_cons_of_neg (by simp; omega), if_pos h, if_neg (show ¬ x.q = 0 by omega)]
        rw [h0] at this
        simp at this ⊢
        omega
      · rw [List.filter_cons_of_neg (by simp; omega), List.filter_cons_of_pos (by simpa using h), if_neg (show ¬ x.m = n by omega), List.length_cons]; omega
  have h2 : (setQ l n q).length = (l.filter (fun x => decide (x.m < n))).length + ((if q = 0 then 0 else 1) + (l.filter (fun x => decide (n < x.m))).length) := by
    unfold setQ
    rw [List.length_append, List.length_append]
    congr 2
    split <;> simp
  omega
end

/-- A position that is right, with so much free and so much under a name, is right. -/
theorem Right.set {a : Int} {l : List Mk} (h : Right a l) {b n q : Int} (hb : 0 ≤ b) (hq : 0 ≤ q) (hn : q ≠ 0 → 1 ≤ n ∧ n ≤ 65536) (hlen : q = 0 ∨ getQ l n ≠ 0 ∨ l.length < 8) (hsum : b + (sumQ l - getQ l n + q) ≤ MaxA) : Right b (setQ l n q) := by
  have he := fun x hx => (h.each x hx).2.2
  refine ⟨hb, ?_, setQ_up h.up n q, ?_, by rw [sumQ_setQ h.up]; exact hsum⟩
  · have h1 := setQ_len h.up he n q
    have h2 := h.len
    rcases hlen with h3 | h3 | h3
    · rw [if_pos h3] at h1; split at h1 <;> omega
    · rw [if_neg h3] at h1; split at h1 <;> omega
    · split at h1 <;> split at h1 <;> omega
  · intro x hx
    rcases mem_setQ.1 hx with h1 | ⟨h1, rfl⟩
    · exact h.each x h1.1
    · have := hn h1
      exact ⟨this.1, this.2, by show 1 ≤ q; omega⟩
end Go.Proofs.YtcgcgekefhhjhaaDoor
