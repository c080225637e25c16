/- What package balance's calls answer, in plain Lean; and the statements' laws of it. -/
import Derived.Test.YtcgcgekefhhjhaaDoorBalP
namespace Go.Proofs.YtcgcgekefhhjhaaDoor
set_option linter.unusedSimpArgs false
set_option linter.unusedVariables false

/-- An answer: the error's number (0: none), its place, the position. -/
structure Res where
  e : Int
  pl : Option Int
  a : Int
  l : List Mk
def Res.bad (b : Int × Option Int) : Res := ⟨b.1, b.2, 0, []⟩
def totalS (a : Int) (l : List Mk) : Int := if (posCheck a l).1 = 0 then a + sumQ l else 0
def markedS (a : Int) (l : List Mk) (n : Int) : Int := if (posCheck a l).1 = 0 then getQ l n else 0
def coverS (a : Int) (l : List Mk) (n : Int) : Int := if (posCheck a l).1 = 0 then a + getQ l n else 0
def beginS (a : Int) (l : List Mk) (q n least : Int) : Int × Option Int :=
  if (posCheck a l).1 = 0 then (if q < 1 then (16, none) else if n < least ∨ 65536 < n then (19, none) else (0, none)) else ((posCheck a l).1, some (posCheck a l).2)
def creditS (a : Int) (l : List Mk) (q : Int) : Res :=
  if (beginS a l q 0 0).1 = 0 then (if MaxA - totalS a l < q then .bad (9, none) else ⟨0, none, a + q, l⟩) else .bad (beginS a l q 0 0)
def debitS (a : Int) (l : List Mk) (q n : Int) : Res :=
  if (beginS a l q n 0).1 = 0 then (if coverS a l n < q then .bad (18, none) else ⟨0, none, a + min (getQ l n) q - q, setQ l n (getQ l n - min (getQ l n) q)⟩) else .bad (beginS a l q n 0)
def markS (a : Int) (l : List Mk) (q n : Int) : Res :=
  if (beginS a l q n 1).1 = 0 then (if a < q then .bad (18, none) else if getQ l n = 0 ∧ 8 ≤ l.length then .bad (5, none) else ⟨0, none, a - q, setQ l n (getQ l n + q)⟩) else .bad (beginS a l q n 1)
def unmarkS (a : Int) (l : List Mk) (q n : Int) : Res :=
  if (beginS a l q n 1).1 = 0 then (if markedS a l n = 0 then .bad (19, none) else if markedS a l n < q then .bad (18, none) else ⟨0, none, a + q, setQ l n (getQ l n - q)⟩) else .bad (beginS a l q n 1)

theorem posCheck_range (a : Int) (l : List Mk) : 0 ≤ (posCheck a l).1 ∧ (posCheck a l).1 ≤ 24 := by
  unfold posCheck
  repeat' split
  all_goals simp
theorem begin_zero {a : Int} {l : List Mk} {q n least : Int} (h : (beginS a l q n least).1 = 0) : (posCheck a l).1 = 0 ∧ 1 ≤ q ∧ least ≤ n ∧ n ≤ 65536 := by
  unfold beginS at h
  split at h
  · split at h; · simp at h
    split at h; · simp at h
    exact ⟨by assumption, by omega, by omega, by omega⟩
  · rename_i h1; exact absurd h h1
theorem begin_ok {a : Int} {l : List Mk} {q n least : Int} (h : (posCheck a l).1 = 0) (hq : 1 ≤ q) (h1 : least ≤ n) (h2 : n ≤ 65536) : beginS a l q n least = (0, none) := by
  unfold beginS
  rw [if_pos h, if_neg (by omega), if_neg (by omega)]
theorem right_total {a : Int} {l : List Mk} (h : Right a l) : totalS a l = a + sumQ l := by rw [totalS, check_of_right h]; rfl
theorem right_marked {a : Int} {l : List Mk} (h : Right a l) (n : Int) : markedS a l n = getQ l n := by rw [markedS, check_of_right h]; rfl
theorem right_cover {a : Int} {l : List Mk} (h : Right a l) (n : Int) : coverS a l n = a + getQ l n := by rw [coverS, check_of_right h]; rfl
theorem Right.q {a : Int} {l : List Mk} (h : Right a l) : ∀ x ∈ l, 1 ≤ x.q := fun x hx => (h.each x hx).2.2
theorem getQ_zero {a : Int} {l : List Mk} (h : Right a l) : getQ l 0 = 0 := getQ_none fun x hx => by have := (h.each x hx).1; omega

section
variable {a : Int} {l : List Mk} (ha : a ≤ MaxA)
include ha
theorem credit_zero {q : Int} (h : (creditS a l q).e = 0) : Right a l ∧ 1 ≤ q ∧ a + sumQ l + q ≤ MaxA ∧ creditS a l q = ⟨0, none, a + q, l⟩ := by
  unfold creditS at h ⊢
  by_cases hb : (beginS a l q 0 0).1 = 0
  · obtain ⟨h1, h2, _, _⟩ := begin_zero hb
    have hr := right_of_check ha h1
    rw [if_pos hb] at h ⊢
    by_cases ho : MaxA - totalS a l < q
    · rw [if_pos ho] at h; simp [Res.bad] at h
    · rw [if_neg ho]
      rw [right_total hr] at ho
      exact ⟨hr, h2, by omega, rfl⟩
  · rw [if_neg hb] at h; exact absurd h hb
theorem debit_zero {q n : Int} (h : (debitS a l q n).e = 0) : Right a l ∧ 1 ≤ q ∧ 0 ≤ n ∧ n ≤ 65536 ∧ q ≤ a + getQ l n ∧ debitS a l q n = ⟨0, none, a + min (getQ l n) q - q, setQ l n (getQ l n - min (getQ l n) q)⟩ := by
  unfold debitS at h ⊢
  by_cases hb : (beginS a l q n 0).1 = 0
  · obtain ⟨h1, h2, h3, h4⟩ := begin_zero hb
    have hr := right_of_check ha h1
    rw [if_pos hb] at h ⊢
    by_cases ho : coverS a l n < q
    · rw [if_pos ho] at h; simp [Res.bad] at h
    · rw [if_neg ho]
      rw [right_cover hr] at ho
      exact ⟨hr, h2, h3, h4, by omega, rfl⟩
  · rw [if_neg hb] at h; exact absurd h hb
theorem mark_zero {q n : Int} (h : (markS a l q n).e = 0) : Right a l ∧ 1 ≤ q ∧ 1 ≤ n ∧ n ≤ 65536 ∧ q ≤ a ∧ (getQ l n ≠ 0 ∨ l.length < 8) ∧ markS a l q n = ⟨0, none, a - q, setQ l n (getQ l n + q)⟩ := by
  unfold markS at h ⊢
  by_cases hb : (beginS a l q n 1).1 = 0
  · obtain ⟨h1, h2, h3, h4⟩ := begin_zero hb
    have hr := right_of_check ha h1
    rw [if_pos hb] at h ⊢
    by_cases ho : a < q
    · rw [if_pos ho] at h; simp [Res.bad] at h
    · rw [if_neg ho] at h ⊢
      by_cases hm : getQ l n = 0 ∧ 8 ≤ l.length
      · rw [if_pos hm] at h; simp [Res.bad] at h
      · rw [if_neg hm]
        refine ⟨hr, h2, h3, h4, by omega, ?_, rfl⟩
        by_cases h0 : getQ l n = 0
        · exact .inr (by have : ¬ 8 ≤ l.length := fun h8 => hm ⟨h0, h8⟩; omega)
        · exact .inl h0
  · rw [if_neg hb] at h; exact absurd h hb
theorem unmark_zero {q n : Int} (h : (unmarkS a l q n).e = 0) : Right a l ∧ 1 ≤ q ∧ 1 ≤ n ∧ n ≤ 65536 ∧ q ≤ getQ l n ∧ unmarkS a l q n = ⟨0, none, a + q, setQ l n (getQ l n - q)⟩ := by
  unfold unmarkS at h ⊢
  by_cases hb : (beginS a l q n 1).1 = 0
  · obtain ⟨h1, h2, h3, h4⟩ := begin_zero hb
    have hr := right_of_check ha h1
    rw [if_pos hb] at h ⊢
    by_cases ho : markedS a l n = 0
    · rw [if_pos ho] at h; simp [Res.bad] at h
    · rw [if_neg ho] at h ⊢
      by_cases hm : markedS a l n < q
      · rw [if_pos hm] at h; simp [Res.bad] at h
      · rw [if_neg hm]
        rw [right_marked hr] at hm
        exact ⟨hr, h2, h3, h4, by omega, rfl⟩
  · rw [if_neg hb] at h; exact absurd h hb
end

theorem credit_right {a q : Int} {l : List Mk} (h : Right a l) (hq : 1 ≤ q) (hs : a + sumQ l + q ≤ MaxA) : Right (a + q) l := ⟨by have := h.a0; omega, h.len, h.up, h.each, by omega⟩
theorem debit_right {a q n : Int} {l : List Mk} (h : Right a l) (hq : 1 ≤ q) (hn : 0 ≤ n) (hn2 : n ≤ 65536) (hc : q ≤ a + getQ l n) : Right (a + min (getQ l n) q - q) (setQ l n (getQ l n - min (getQ l n) q)) := by
  have h1 := getQ_nonneg h.q n
  have h2 := h.a0
  have h3 := h.sum
  have h4 := getQ_le h.q n
  by_cases h0 : getQ l n = 0
  · refine h.set (by omega) (by omega) (fun hne => by omega) (.inl (by omega)) (by omega)
  · have hn1 : 1 ≤ n := by
      have hne : n ≠ 0 := fun hz => h0 (by rw [hz]; exact getQ_zero h)
      omega
    exact h.set (by omega) (by omega) (fun _ => ⟨hn1, hn2⟩) (.inr (.inl h0)) (by omega)
theorem mark_right {a q n : Int} {l : List Mk} (h : Right a l) (hq : 1 ≤ q) (hn : 1 ≤ n) (hn2 : n ≤ 65536) (hc : q ≤ a) (hl : getQ l n ≠ 0 ∨ l.length < 8) : Right (a - q) (setQ l n (getQ l n + q)) := by
  have h1 := getQ_nonneg h.q n
  have h3 := h.sum
  exact h.set (by omega) (by omega) (fun _ => ⟨hn, hn2⟩) (.inr hl) (by omega)
theorem unmark_right {a q n : Int} {l : List Mk} (h : Right a l) (hq : 1 ≤ q) (hn : 1 ≤ n) (hn2 : n ≤ 65536) (hc : q ≤ getQ l n) : Right (a + q) (setQ l n (getQ l n - q)) := by
  have h1 := h.a0
  have h3 := h.sum
  exact h.set (by omega) (by omega) (fun _ => ⟨hn, hn2⟩) (.inr (.inl (by omega))) (by omega)

theorem total_of_right {a : Int} {l : List Mk} (h : Right a l) : 0 ≤ a + sumQ l := by
  have := h.a0
  have := sumQ_nonneg h.q
  omega
theorem back_mark {a q n : Int} {l : List Mk} (ha : a ≤ MaxA) (h : (markS a l q n).e = 0) :
    unmarkS (a - q) (setQ l n (getQ l n + q)) q n = ⟨0, none, a, l⟩ ∧ totalS (a - q) (setQ l n (getQ l n + q)) = totalS a l := by
  obtain ⟨hr, h1, h2, h3, h4, h5, _⟩ := mark_zero ha h
  have hm := mark_right hr h1 h2 h3 h4 h5
  have hg : getQ (setQ l n (getQ l n + q)) n = getQ l n + q := getQ_setQ_self hr.up _ _
  have h0 := getQ_nonneg hr.q n
  refine ⟨?_, ?_⟩
  · unfold unmarkS
    rw [begin_ok (by rw [check_of_right hm]) h1 h2 h3, if_pos rfl, right_marked hm, hg, if_neg (by omega), if_neg (by omega), setQ_setQ _ _ _ hr.up]
    have e1 : getQ l n + q - q = getQ l n := by omega
    have e2 : a - q + q = a := by omega
    rw [e1, e2, setQ_getQ hr.up hr.q]
  · rw [right_total hm, right_total hr, sumQ_setQ hr.up]; omega
theorem back_credit {a q : Int} {l : List Mk} (ha : a ≤ MaxA) (h : (creditS a l q).e = 0) :
    debitS (a + q) l q 0 = ⟨0, none, a, l⟩ ∧ totalS (a + q) l = totalS a l + q := by
  obtain ⟨hr, h1, h2, _⟩ := credit_zero ha h
  have hc := credit_right hr h1 h2
  have h0 := getQ_zero hr
  have ha0 := hr.a0
  refine ⟨?_, by rw [right_total hc, right_total hr]; omega⟩
  unfold debitS
  rw [begin_ok (by rw [check_of_right hc]) h1 (by omega) (by omega), if_pos rfl, right_cover hc, h0, if_neg (by omega)]
  have e1 : min (0 : Int) q = 0 := by omega
  have e2 : a + q + 0 - q = a := by omega
  have e3 : (0 : Int) - 0 = getQ l 0 := by rw [h0]; rfl
  rw [e1, e2, e3, setQ_getQ hr.up hr.q]
/-- What a debit does to the marks. -/
theorem first_debit {a q n : Int} {l : List Mk} (ha : a ≤ MaxA) (h : (debitS a l q n).e = 0) :
    let d := debitS a l q n
    Right d.a d.l ∧ Right a l ∧ markedS d.a d.l n = markedS a l n - min (markedS a l n) q ∧ d.a = a + min (markedS a l n) q - q
      ∧ (∀ x, x ≠ n → markedS d.a d.l x = markedS a l x) ∧ (∀ x ∈ d.l, markedS a l x.m ≠ 0) ∧ totalS d.a d.l = totalS a l - q := by
  obtain ⟨hr, h1, h2, h3, h4, he⟩ := debit_zero ha h
  have hd := debit_right hr h1 h2 h3 h4
  have h0 := getQ_nonneg hr.q n
  rw [he]
  refine ⟨hd, hr, ?_, ?_, ?_, ?_, ?_⟩
  · rw [right_marked hd, right_marked hr]; exact getQ_setQ_self hr.up _ _
  · rw [right_marked hr]
  · intro x hx; rw [right_marked hd, right_marked hr]; exact getQ_setQ_other hr.up hx
  · intro x hx
    rw [right_marked hr]
    rcases mem_setQ.1 hx with h5 | ⟨h5, rfl⟩
    · rw [getQ_mem hr.up h5.1]; have := hr.q x h5.1; omega
    · show getQ l n ≠ 0
      omega
  · rw [right_total hd, right_total hr]
    show a + min (getQ l n) q - q + sumQ (setQ l n _) = _
    rw [sumQ_setQ hr.up]
    omega
end Go.Proofs.YtcgcgekefhhjhaaDoor
