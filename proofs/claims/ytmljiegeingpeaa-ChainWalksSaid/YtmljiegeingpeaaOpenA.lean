/- Arguments of chapter 10 opened: rows of acts. -/
import Derived.Test.YtmljiegeingpeaaOpen10
import Derived.Test.YtmljiegeingpeaaOpenL
import Derived.Test.YtmljiegeingpeaaActs
namespace Go.Proofs.Ytmljiegeingpeaa
set_option linter.unusedSimpArgs false
set_option linter.unusedVariables false
open Go.RowKit Go.ChangeShapes Go.WideShapes Go.Deep Go.Joins
section
variable {H : Type} {enc : TypeId × Value → H} {P : Program} {w : World} {base : Nat} {spare : Nat → Bool} {held : Bool}
theorem actS_el {tb ti ts : TypeId} {fs : Array Field} (hi : fs.toList.map (·.type) = [tb, ti, ts]) (hb : P.underlying tb = some .bool) (hu : P.underlying ti = some (.int .i64)) (hs : P.underlying ts = some .string) (n : Nat) (vs : Nat → Value) (ys : Nat → DataW H × List MemPlace)
    (h : ∀ (j : Nat) (f : Field), fs[j]? = some f → DataW.trod enc P w base spare held n f.type [vs j] = some (ys j)) : ∃ x : ActS, ∀ j, j < 3 → x.cs[j]? = some (vs j) := by
  obtain ⟨l⟩ := fs
  have hlen : l.length = 3 := by simpa using congrArg List.length hi
  match l, hlen, hi with
  | [f0, f1, f2], _, hi =>
    simp only [List.map_cons, List.map_nil, List.cons.injEq, and_true] at hi
    obtain ⟨e0, e1, e2⟩ := hi
    obtain ⟨a0, g0, _⟩ := DataW.trod_bool hb (by have := h 0 f0 rfl; rwa [e0] at this)
    obtain ⟨a1, g1, _, hw⟩ := DataW.trod_int hu (by have := h 1 f1 rfl; rwa [e1] at this)
    obtain ⟨a2, g2, _, _⟩ := DataW.trod_string hs (by have := h 2 f2 rfl; rwa [e2] at this)
    simp only [List.cons.injEq, and_true] at g0 g1 g2
    refine ⟨⟨a0, a1, a2, wf_le hw⟩, fun j hj => ?_⟩
    match j, hj with
    | 0, _ => rw [g0]; rfl
    | 1, _ => rw [g1]; rfl
    | 2, _ => rw [g2]; rfl
end
end Go.Proofs.Ytmljiegeingpeaa
