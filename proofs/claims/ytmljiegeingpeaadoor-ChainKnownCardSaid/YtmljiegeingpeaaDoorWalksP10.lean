/- Words for law ChainWalks: the chain in memory is one; the steps of a walk. -/
import Derived.Test.YtmljiegeingpeaaDoorLaid10
namespace Go.Proofs.YtmljiegeingpeaaDoor
set_option linter.unusedSimpArgs false
set_option linter.unusedVariables false
open Go.RowKit

theorem versC_inj : ∀ {L L' : List VerS}, versC L = versC L' → L = L' := by
  intro L
  induction L with
  | nil =>
    intro L' h
    cases L' with
    | nil => rfl
    | cons y ys => simp [versC, VerS.cs] at h
  | cons x xs ih =>
    intro L' h
    cases L' with
    | nil => simp [versC, VerS.cs] at h
    | cons y ys =>
      simp [versC, VerS.cs] at h
      obtain ⟨h1, h2, h3⟩ := h
      have := ih (L' := ys) h3
      subst this
      cases x; cases y
      simp_all
theorem own_uniq {w : World} {B s n n' : Nat} {t : TypeId} {v : Value} {xs xs' : List Value} (h : w.ownsRow B t s v n xs) (h' : w.ownsRow B t s v n' xs') (hs : 0 < s) : n = n' ∧ xs = xs' := by
  have e1 := h.1
  have e2 := h'.1
  rcases h.2 with ⟨a1, a2⟩ | ⟨g, cap, cur, rfl, _, a3, a4, _, a6, a7⟩
  · rcases h'.2 with ⟨b1, b2⟩ | ⟨g', cap', cur', hv, _⟩
    · subst a2 b2
      simp at e1 e2
      exact ⟨rfl, by rw [e1, e2]⟩
    · rw [a1] at hv; cases hv
  · rcases h'.2 with ⟨b1, b2⟩ | ⟨g', cap', cur', hv, _, b3, b4, _, b6, b7⟩
    · cases b1
    · cases hv
      rw [a3] at b3
      cases b3
      exact ⟨rfl, by rw [← a7, ← b7]⟩
theorem Chn.uniq {w : World} {p : Nat} {sv sv' : Value} {L L' : List VerS} (h : Chn w p sv L) (h' : Chn w p sv' L') : sv = sv' ∧ L = L' := by
  have e : sv = sv' := by
    have h1 := h.blk.cell 0
    have h2 := h'.blk.cell 0
    rw [h1] at h2
    simpa using h2
  subst e
  exact ⟨rfl, versC_inj (own_uniq h.row h'.row (by omega)).2⟩

section
variable {L : List VerS} {acts : List ActS} {stop : Int}
theorem wk_go {k : Nat} (h1 : wkEnd L acts stop k = false) : leN (wkAt L acts k).2 (lastNo (wkAt L acts k).1) < (wkAt L acts k).2.length ∧ (0 < k → (k : Int) ≠ stop) := by
  unfold wkEnd at h1
  have hle := leN_le (wkAt L acts k).2 (lastNo (wkAt L acts k).1)
  simp at h1
  exact ⟨by omega, h1.2⟩
theorem wk_step {k : Nat} {pre M : List VerS} {x : VerS} (h1 : (wkAt L acts k).1 = pre) (h2 : (wkAt L acts k).2 = M) (hk : pre.length = k) (hx : M[leN M (lastNo pre)]? = some x) :
    (wkAt L acts (k + 1)).1 = pre ++ [x] ∧ (wkAt L acts (k + 1)).2 = match acts[k]? with | some a => doneL M a | none => M := by
  have e : wkAt L acts (k + 1) = wkStep acts (wkAt L acts k) := rfl
  rw [e]
  unfold wkStep
  rw [h2, h1, hx]
  dsimp only
  rw [hk]
  exact ⟨rfl, rfl⟩
/-- Two first ends are one. -/
theorem first_uniq {f : Nat → Bool} {i j : Nat} (h1 : f i = true) (h2 : ∀ k, k < i → f k = false) (h3 : f j = true) (h4 : ∀ k, k < j → f k = false) : i = j := by
  rcases Nat.lt_trichotomy i j with h | h | h
  · rw [h4 i h] at h1; cases h1
  · exact h
  · rw [h2 j h] at h3; cases h3
end
end Go.Proofs.YtmljiegeingpeaaDoor
