/- Regions that draw their order: one walk in the text's order, over a class of worlds. -/
import Derived.Test.YtflkddllofeiaaaGreatDoorBase
import Derived.Test.YtflkddllofeiaaaGreatDoorChecked
import Derived.Lib.Hide
import Derived.BigQuiet
import Derived.StillTailTactics
namespace Go.Proofs.YtflkddllofeiaaaGreatDoor
set_option linter.unusedSimpArgs false
set_option linter.unusedVariables false
open Go.RowKit

theorem ret_int {k : IntKind} {a b : Int} (h : a = b) : Ending.returned (.int k a) = Ending.returned (.int k b) := by rw [h]
theorem ret_bool {a b : Bool} (h : a = b) : Ending.returned (.bool a) = Ending.returned (.bool b) := by rw [h]

/-- The worlds in which nothing that lies below w0's end has turned. -/
def InB (w0 : World) (W : World) : Prop := Below w0.heap.size w0 W
theorem InB.trans {w0 W W' : World} (h : InB w0 W) (k : Below W.heap.size W W') : InB w0 W' := Below.trans h (k.mono h.size)
theorem InB.cell {w0 W : World} (h : InB w0 W) {p : Addr} {v : Value} (hc : w0.cell? p = some v) : W.cell? p = some v := (Below.cell h (World.block_lt_of_cell? w0 p hc)).trans hc
theorem InB.start (w : World) : InB w { w with drawn := w.drawn + 1 } := (Below.refl _ _).drew

/-- A region that draws its order, every operation of which yields one value in every world of the class: one walk in the text's order. -/
theorem wp_region_class {P : Program} (C : World → Prop) {id : Nat} {Q : Exit → Act → World → Prop} {a : Act} {w : World} {l : List Oper} (hm : P.follows .mixedOrders = true) (hB : Region.lexB .any l.toArray = true) (hC : C { w with drawn := w.drawn + 1 })
    (h : wpQuiet P l.toArray C (fun a' => ∀ w', C w' → Q .normal a' w') l a) : (Code.region id l.toArray true).wp P Q a w :=
  wp_region_quiet (C := C) hm hB hC (by simpa using h)
section
variable {P : Program} {ops : Array Oper} {C : World → Prop} {a : Act} {o : Oper}
theorem quiet_value {K : Act → Prop} (v : Value) (h : ∀ W, C W → (execOp a.eval o).run P W = .ok (.value v) W) (hk : K (a.put o.dst v)) : o.quiet P a C K :=
  ⟨v, fun W hW => by unfold Oper.quietAt; rw [h W hW]; exact ⟨rfl, rfl⟩, hk⟩
theorem quiet_call {K : Act → Prop} (f : FuncId) (args : Array Value) (v : Value) (hr : ∀ W, (execOp a.eval o).run P W = .ok (.enter f args) W) (hc : ∀ W, C W → Calls P f args W fun e w' => e = .returned v ∧ C w') (hk : K (a.put o.dst v)) : o.quiet P a C K :=
  ⟨v, fun W hW => by unfold Oper.quietAt; rw [hr W]; exact ⟨rfl, hc W hW⟩, hk⟩
end

theorem calls_same {P : Program} {f : FuncId} {args : Array Value} {w : World} {v : Value} (h : Calls P f args w fun e w' => e = .returned v ∧ w = w') : Calls P f args w fun e w' => e = .returned v ∧ w' = w :=
  h.mono fun _ _ ⟨a, b⟩ => ⟨a, b.symm⟩

/-- The head of a region only reads; then some operations in one forced order. -/
theorem region_tail {P : Program} {id : Nat} {Q : Exit → Act → World → Prop} {a : Act} {w : World} {l : List Oper} (n : Nat) (hm : P.follows .mixedOrders = true) (hB : Region.lexTailB .any l.toArray n = true)
    (h : wpStill P l.toArray w.drew (fun a' => wpList P l.toArray Q (l.drop n) a' w.drew) (l.take n) a) : (Code.region id l.toArray true).wp P Q a w := wp_region_still_tail n hm hB h

end Go.Proofs.YtflkddllofeiaaaGreatDoor
