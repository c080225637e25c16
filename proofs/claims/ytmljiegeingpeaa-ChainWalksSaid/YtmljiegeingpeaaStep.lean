/- custodylaw10.step: one call of a chain, held against the row (printed by gen_step.py). -/
import Derived.Test.YtmljiegeingpeaaAllLaw
namespace Go.Proofs.Ytmljiegeingpeaa
set_option linter.unusedSimpArgs false
set_option linter.unusedVariables false
open Go.RowKit

theorem own_own_ne {w : World} {B B' : Nat} {e e' : TypeId} {s s' n n' : Nat} {v v' : Value} {xs xs' : List Value} (h : w.ownsRow B e s v n xs) (h' : w.ownsRow B' e' s' v' n' xs') (hne : e ≠ e') {b : Nat} (hb : v.ownBlock = some b) : v'.ownBlock ≠ some b := by
  rcases h.2 with h0 | ⟨g, cap, cur, rfl, _, h2, _⟩
  · rw [h0.1] at hb; cases hb
  · cases hb
    rcases h'.2 with h1 | ⟨g', cap', cur', rfl, _, h2', _⟩
    · rw [h1.1]; intro h; cases h
    · intro he
      cases he
      rw [h2] at h2'
      injection h2' with h2'
      injection h2' with _ h3 _
      exact hne h3
theorem rowR_but {w w' : World} {p : Nat} {sv rv : Value} {L l : List VerS} (h : Chn w p sv L) (hr : RowR w rv l) (hb : But w w' (OfC p sv)) : RowR w' rv l :=
  own_but hr hb fun b hbv ho => by
    rcases ho with rfl | ho
    · exact own_blk_ne hr h.blk (by decide) hbv
    · exact own_own_ne h.row hr (by decide) ho hbv
theorem rowR_below {w w' : World} {rv : Value} {l : List VerS} (hr : RowR w rv l) (hb : Below w.heap.size w w') : RowR w' rv l := own_below hr hb
theorem put_eq (L : List VerS) (n : Int) : (putE L n == putE L n) = true := by simp
theorem putE_range (L : List VerS) (n : Int) : 0 ≤ putE L n ∧ putE L n ≤ 24 := by unfold putE; split <;> omega
theorem MaxV.put {L : List VerS} (h : MaxV L) {x : VerS} (hx : x.n ≤ 9223372036854775807) : MaxV (putL L x) := by
  unfold putL
  split
  · intro y hy
    rcases List.mem_append.1 hy with hy | hy
    · exact h y hy
    · simp at hy; subst hy; exact hx
  · exact h
theorem MaxV.prune {L : List VerS} (h : MaxV L) (n : Int) : MaxV (pruneL L n) := by
  unfold pruneL
  split
  · exact h
  · exact fun y hy => h y (List.mem_of_mem_drop hy)

/-- What a step leaves. -/
def StepTo (w : World) (p : Nat) (sv : Value) (L : List VerS) (e : Ending) (w' : World) : Prop :=
  ∃ sv' rv' L', e = .returned (.tuple #[rv', .bool true]) ∧ Chn w' p sv' L' ∧ RowR w' rv' L' ∧ MaxV L' ∧ L'.length ≤ L.length + 1 ∧ But w w' (OfC p sv) ∧ (∀ b, sv'.ownBlock = some b → sv.ownBlock = some b ∨ w.heap.size ≤ b)

end Go.Proofs.Ytmljiegeingpeaa
