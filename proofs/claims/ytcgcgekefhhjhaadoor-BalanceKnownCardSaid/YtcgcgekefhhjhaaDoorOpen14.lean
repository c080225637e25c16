/- Arguments of chapter 14 opened: positions; rows of calls. -/
import Derived.Test.YtcgcgekefhhjhaaDoorOpen
import Derived.Test.YtcgcgekefhhjhaaDoorMove14
import Derived.Lib.SmallJoins
namespace Go.Proofs.YtcgcgekefhhjhaaDoor
set_option linter.unusedSimpArgs false
set_option linter.unusedVariables false
open Go.RowKit Go.ChangeShapes Go.WideShapes Go.Deep Go.Joins

theorem wf_le14 {n : Int} (h : (Lit.int .i64 n).wf = true) : n ≤ 9223372036854775807 := by
  simp [Lit.wf] at h
  exact h.2
structure MkR where
  x : Mk
  le : x.q ≤ 9223372036854775807
def MkR.cs (y : MkR) : List Value := y.x.cs
theorem MkR.len (y : MkR) : y.cs.length = 2 := rfl
theorem mkR_flat (ys : List MkR) : ys.flatMap MkR.cs = marksC (ys.map (·.x)) := by
  induction ys with
  | nil => rfl
  | cons y ys ih => simp only [List.flatMap_cons, List.map_cons, marksC, ih]; rfl
structure CallR where
  kind : Int
  qty : Int
  nm : Int
  le : qty ≤ 9223372036854775807
def CallR.cs (y : CallR) : List Value := [.int .i64 y.kind, .int .i64 y.qty, .int .i64 y.nm]
theorem CallR.len (y : CallR) : y.cs.length = 3 := rfl
section
variable {H : Type} {enc : TypeId × Value → H} {P : Program} {w : World} {base : Nat} {spare : Nat → Bool} {held : Bool}
theorem mkR_el {ti tq : TypeId} {fs : Array Field} (hi : fs.toList.map (·.type) = [ti, tq]) (hu : P.underlying ti = some (.int .i64)) (hq : P.underlying tq = some (.int .i64)) (n : Nat) (vs : Nat → Value) (ys : Nat → DataW H × List MemPlace)
    (h : ∀ (j : Nat) (f : Field), fs[j]? = some f → DataW.trod enc P w base spare held n f.type [vs j] = some (ys j)) : ∃ x : MkR, ∀ j, j < 2 → x.cs[j]? = some (vs j) := by
  obtain ⟨l⟩ := fs
  have hlen : l.length = 2 := by simpa using congrArg List.length hi
  match l, hlen, hi with
  | [f0, f1], _, hi =>
    simp only [List.map_cons, List.map_nil, List.cons.injEq, and_true] at hi
    obtain ⟨e0, e1⟩ := hi
    obtain ⟨a0, g0, _, _⟩ := DataW.trod_int hu (by have := h 0 f0 rfl; rwa [e0] at this)
    obtain ⟨a1, g1, _, hw⟩ := DataW.trod_int hq (by have := h 1 f1 rfl; rwa [e1] at this)
    simp only [List.cons.injEq, and_true] at g0 g1
    refine ⟨⟨⟨a0, a1⟩, wf_le14 hw⟩, fun j hj => ?_⟩
    match j, hj with
    | 0, _ => rw [g0]; rfl
    | 1, _ => rw [g1]; rfl
theorem callR_el {ti tq : TypeId} {fs : Array Field} (hi : fs.toList.map (·.type) = [ti, tq, ti]) (hu : P.underlying ti = some (.int .i64)) (hq : P.underlying tq = some (.int .i64)) (n : Nat) (vs : Nat → Value) (ys : Nat → DataW H × List MemPlace)
    (h : ∀ (j : Nat) (f : Field), fs[j]? = some f → DataW.trod enc P w base spare held n f.type [vs j] = some (ys j)) : ∃ x : CallR, ∀ j, j < 3 → x.cs[j]? = some (vs j) := by
  obtain ⟨l⟩ := fs
  have hlen : l.length = 3 := by simpa using congrArg List.length hi
  match l, hlen, hi with
  | [f0, f1, f2], _, hi =>
    simp only [List.map_cons, List.map_nil, List.cons.injEq, and_true] at hi
    obtain ⟨e0, e1, e2⟩ := hi
    obtain ⟨a0, g0, _, _⟩ := DataW.trod_int hu (by have := h 0 f0 rfl; rwa [e0] at this)
    obtain ⟨a1, g1, _, hw⟩ := DataW.trod_int hq (by have := h 1 f1 rfl; rwa [e1] at this)
    obtain ⟨a2, g2, _, _⟩ := DataW.trod_int hu (by have := h 2 f2 rfl; rwa [e2] at this)
    simp only [List.cons.injEq, and_true] at g0 g1 g2
    refine ⟨⟨a0, a1, a2, wf_le14 hw⟩, fun j hj => ?_⟩
    match j, hj with
    | 0, _ => rw [g0]; rfl
    | 1, _ => rw [g1]; rfl
    | 2, _ => rw [g2]; rfl
end
/-- A position that came in. -/
theorem posOK_in {w : World} {a : Int} {ys : List MkR} {A : Option Addr} (hr : Reads w w.heap.size 2 A ys.length (ys.flatMap MkR.cs)) (ha : a ≤ 9223372036854775807) (hl : ys.length * 16 ≤ 140737488351232) : PosOK w w.heap.size a (ys.map (·.x)) A := by
  refine ⟨?_, ha, fun x hx => ?_, by rw [List.length_map]; exact hl⟩
  · rw [mkR_flat] at hr
    rw [List.length_map]
    exact hr
  · obtain ⟨y, _, rfl⟩ := List.mem_map.1 hx
    exact y.le
end Go.Proofs.YtcgcgekefhhjhaaDoor
