/- QueueLoses: one queue and the law's own row. -/
import Derived.Test.YtmcknfpohnobdaaQ19
namespace Go.Proofs.Ytmcknfpohnobdaa
set_option linter.unusedSimpArgs false
set_option linter.unusedVariables false
open Go.RowKit Go.MapKept Go.ChangeMaps Go.Maps

structure QS (w0 w : World) (a : QV) (v : Value) : Prop where
  qa : a.at_ w
  la : ∀ i, a.of i → w0.heap.size ≤ i
  own : ∀ i, v.ownBlock = some i → i < w.heap.size ∧ w0.heap.size ≤ i ∧ ¬ a.of i
  bel : Below w0.heap.size w0 w
section
variable {w0 w w' : World} {a a' : QV} {v v' : Value}
theorem QS.step (h : QS w0 w a v) (hb : But w w' a.of) (ha : a'.at_ w') (hn : ∀ i, a'.of i → a.of i ∨ w.heap.size ≤ i) : QS w0 w' a' v := by
  refine ⟨ha, fun i hi => ?_, fun i hi => ⟨Nat.lt_of_lt_of_le (h.own i hi).1 hb.size, (h.own i hi).2.1, fun hai => ?_⟩, h.bel.trans (hb.to_below h.la h.bel.size)⟩
  · rcases hn i hi with h1 | h1
    · exact h.la i h1
    · exact Nat.le_trans h.bel.size h1
  · rcases hn i hai with h1 | h1
    · exact (h.own i hi).2.2 h1
    · have := (h.own i hi).1; omega
theorem QS.below (h : QS w0 w a v) (hb : Below w.heap.size w w') : QS w0 w' a v :=
  ⟨QAt.below h.qa hb, h.la, fun i hi => ⟨Nat.lt_of_lt_of_le (h.own i hi).1 hb.size, (h.own i hi).2⟩, below_after h.bel hb⟩
/-- The own row grown, written or laid anew. -/
theorem QS.grow (h : QS w0 w a v) (hb : But w w' (fun i => v.ownBlock = some i)) (hv : ∀ i, v'.ownBlock = some i → v.ownBlock = some i ∨ (w.heap.size ≤ i ∧ i < w'.heap.size)) : QS w0 w' a v' := by
  refine ⟨QAt.but h.qa hb (fun i hi e => (h.own i e).2.2 hi), h.la, fun i hi => ?_, h.bel.trans (hb.to_below (fun i e => (h.own i e).2.1) h.bel.size)⟩
  rcases hv i hi with h1 | ⟨h1, h2⟩
  · exact ⟨Nat.lt_of_lt_of_le (h.own i h1).1 hb.size, (h.own i h1).2⟩
  · exact ⟨h2, Nat.le_trans h.bel.size h1, fun ha => by have := QAt.lt h.qa ha; omega⟩
theorem QS.reads {s n : Nat} {A : Option Addr} {xs : List Value} (h : QS w0 w a v) (hr : Reads w0 w0.heap.size s A n xs) : Reads w w.heap.size s A n xs := (hr.below h.bel).more h.bel.size
theorem QS.put_reads {s n : Nat} {A : Option Addr} {xs : List Value} (h : QS w0 w a v) (hr : Reads w0 w0.heap.size s A n xs) : ∀ w', But w w' a.of → Reads w' w'.heap.size s A n xs := fun w' hb =>
  have hB := h.bel.trans (hb.to_below h.la h.bel.size)
  (hr.below hB).more hB.size
/-- The row of what is known, kept by what turns the queue alone. -/
theorem QS.row {base n s : Nat} {e : TypeId} {xs : List Value} (h : QS w0 w a v) (ho : w.ownsRow base e s v n xs) (hb : But w w' a.of) : w'.ownsRow base e s v n xs := own_but ho hb (fun b hb' ha => (h.own b hb').2.2 ha)
end
end Go.Proofs.Ytmcknfpohnobdaa
