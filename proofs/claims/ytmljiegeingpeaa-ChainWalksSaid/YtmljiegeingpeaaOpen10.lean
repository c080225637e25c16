/- Arguments of chapter 10 opened: rows of calls, of acts. -/
import Derived.Test.YtmljiegeingpeaaOpen
import Derived.Test.YtmljiegeingpeaaScript
namespace Go.Proofs.Ytmljiegeingpeaa
set_option linter.unusedSimpArgs false
set_option linter.unusedVariables false
open Go.RowKit Go.ChangeShapes Go.WideShapes Go.Deep Go.Joins
section
variable {H : Type} {enc : TypeId × Value → H} {P : Program} {w : World} {base : Nat} {spare : Nat → Bool} {held : Bool}
theorem wf_le {n : Int} (h : (Lit.int .i64 n).wf = true) : n ≤ 9223372036854775807 := by
  simp [Lit.wf] at h
  exact h.2
theorem opS_el {ti ts : TypeId} {fs : Array Field} (hi : fs.toList.map (·.type) = [ti, ti, ti, ts]) (hu : P.underlying ti = some (.int .i64)) (hs : P.underlying ts = some .string) (n : Nat) (vs : Nat → Value) (ys : Nat → DataW H × List MemPlace)
    (h : ∀ (j : Nat) (f : Field), fs[j]? = some f → DataW.trod enc P w base spare held n f.type [vs j] = some (ys j)) : ∃ x : OpS, ∀ j, j < 4 → x.cs[j]? = some (vs j) := by
  obtain ⟨l⟩ := fs
  have hlen : l.length = 4 := by simpa using congrArg List.length hi
  match l, hlen, hi with
  | [f0, f1, f2, f3], _, hi =>
    simp only [List.map_cons, List.map_nil, List.cons.injEq, and_true] at hi
    obtain ⟨e0, e1, e2, e3⟩ := hi
    obtain ⟨a0, g0, _, _⟩ := DataW.trod_int hu (by have := h 0 f0 rfl; rwa [e0] at this)
    obtain ⟨a1, g1, _, _⟩ := DataW.trod_int hu (by have := h 1 f1 rfl; rwa [e1] at this)
    obtain ⟨a2, g2, _, hw⟩ := DataW.trod_int hu (by have := h 2 f2 rfl; rwa [e2] at this)
    obtain ⟨a3, g3, _, _⟩ := DataW.trod_string hs (by have := h 3 f3 rfl; rwa [e3] at this)
    simp only [List.cons.injEq, and_true] at g0 g1 g2 g3
    refine ⟨⟨a0, a1, a2, a3, wf_le hw⟩, fun j hj => ?_⟩
    match j, hj with
    | 0, _ => rw [g0]; rfl
    | 1, _ => rw [g1]; rfl
    | 2, _ => rw [g2]; rfl
    | 3, _ => rw [g3]; rfl
end
end Go.Proofs.Ytmljiegeingpeaa
