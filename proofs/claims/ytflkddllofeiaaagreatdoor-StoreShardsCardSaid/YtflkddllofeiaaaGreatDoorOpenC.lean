/- A script of calls as it comes in. -/
import Derived.Test.YtflkddllofeiaaaGreatDoorOpenD
import Derived.Test.YtflkddllofeiaaaGreatDoorAsk
namespace Go.Proofs.YtflkddllofeiaaaGreatDoor
set_option linter.unusedSimpArgs false
set_option linter.unusedVariables false
open Go.RowKit Go.ChangeShapes Go.WideShapes Go.Deep Go.Joins
section
variable {H : Type} {enc : TypeId × Value → H} {P : Program} {w : World} {base : Nat} {held : Bool}
theorem callV_el {o tk ti ts : TypeId} {fk fo : Array Field} (huo : P.underlying o = some (.struct fo)) (hoo : fo.toList.map (fun f => (f.offset, f.type)) = [(0, ti), (1, ti), (2, tk), (4, ti), (5, ts)]) (hck : P.cellsOf tk = 2) (hcs : P.cellsOf ts = 1)
    (hu : P.underlying tk = some (.struct fk)) (ho : fk.toList.map (fun f => (f.offset, f.type)) = [(0, ti), (1, ti)]) (hi : P.underlying ti = some (.int .i64)) (hci : P.cellsOf ti = 1) (hs : P.underlying ts = some .string)
    (n : Nat) (cs : List Value) (y : DataW H × List MemPlace) (hl : cs.length = 6) (h : DataW.trod enc P w base (fun _ => true) held n o cs = some y) : ∃ x : CallV, x.cs = cs ∧ wfI x.n := by
  obtain ⟨l⟩ := fo
  have hlen : l.length = 5 := by simpa using congrArg List.length hoo
  match l, hlen, hoo with
  | [f0, f1, f2, f3, f4], _, hoo =>
    simp only [List.map_cons, List.map_nil, List.cons.injEq, and_true, Prod.mk.injEq] at hoo
    obtain ⟨⟨o0, e0⟩, ⟨o1, e1⟩, ⟨o2, e2⟩, ⟨o3, e3⟩, ⟨o4, e4⟩⟩ := hoo
    obtain ⟨ys, m, _, hy, _, hyl, hf⟩ := DataW.trod_struct huo h
    match cs, hl with
    | [c0, c1, c2, c3, c4, c5], _ =>
      have g0 := hf 0 f0 rfl
      have g1 := hf 1 f1 rfl
      have g2 := hf 2 f2 rfl
      have g3 := hf 3 f3 rfl
      have g4 := hf 4 f4 rfl
      rw [o0, e0, hci] at g0
      rw [o1, e1, hci] at g1
      rw [o2, e2, hck] at g2
      rw [o3, e3, hci] at g3
      rw [o4, e4, hcs] at g4
      simp only [List.drop_zero, List.drop_succ_cons, List.take_succ_cons, List.take_zero] at g0 g1 g2 g3 g4
      match ys, hyl with
      | [y0, y1, y2, y3, y4], _ =>
        obtain ⟨a0, q0, _, _⟩ := DataW.trod_int hi g0
        obtain ⟨a1, q1, _, _⟩ := DataW.trod_int hi g1
        obtain ⟨x, hx, _⟩ := key_deep hu ho hi hci m [c2, c3] y2 rfl g2
        obtain ⟨a3, q3, _, wf3⟩ := DataW.trod_int hi g3
        obtain ⟨a4, q4, _, _⟩ := DataW.trod_string hs g4
        simp only [List.cons.injEq, and_true, Key.cs] at q0 q1 q3 q4 hx
        exact ⟨⟨a0, a1, x, a3, a4⟩, by rw [q0, q1, q3, q4, ← hx.1, ← hx.2]; rfl, wf3⟩
end
end Go.Proofs.YtflkddllofeiaaaGreatDoor
