/- Lists of keys that are answered; a call of a script (lines of Sc2). -/
import Derived.Test.YtflkddllofeiaaaGreatDoorS10
import Derived.Test.YtflkddllofeiaaaGreatDoorSameK
import Derived.Test.YtflkddllofeiaaaGreatDoorApart0
import Derived.Test.YtflkddllofeiaaaGreatDoorAsk
namespace Go.Proofs.YtflkddllofeiaaaGreatDoor
set_option linter.unusedSimpArgs false
set_option linter.unusedVariables false
open Go.RowKit Go.MapKept Go.ChangeMaps Go.Maps
theorem below_after {a b c : World} (h : Below a.heap.size a b) (h' : Below b.heap.size b c) : Below a.heap.size a c := h.trans (h'.mono h.size)
theorem call_at {w : World} {B : Nat} {A : Option Addr} {cs : List CallV} (h : Reads w B 6 A cs.length (cs.flatMap CallV.cs)) {k : Nat} (hk : k < cs.length) :
    ∃ ad, A = some ad ∧ ad.block < B ∧ w.cell? (ad.add (k * 6)) = some (.int .i64 cs[k].on) ∧ w.cell? ⟨(ad.add (k * 6)).block, (ad.add (k * 6)).off + 1, none⟩ = some (.int .i64 cs[k].kind) ∧ w.cell? ⟨(ad.add (k * 6)).block, (ad.add (k * 6)).off + 2, none⟩ = some (.int .i64 cs[k].key.acc) ∧
      w.cell? ⟨(ad.add (k * 6)).block, (ad.add (k * 6)).off + 3, none⟩ = some (.int .i64 cs[k].key.ast) ∧ w.cell? ⟨(ad.add (k * 6)).block, (ad.add (k * 6)).off + 4, none⟩ = some (.int .i64 cs[k].n) ∧ w.cell? ⟨(ad.add (k * 6)).block, (ad.add (k * 6)).off + 5, none⟩ = some (.string cs[k].v) := by
  obtain ⟨ad, e, hb, h0, h1⟩ := Reads.elem CallV.len h hk
  exact ⟨ad, e, hb, h0 _ rfl, h1 1 _ (by omega) rfl, h1 2 _ (by omega) rfl, h1 3 _ (by omega) rfl, h1 4 _ (by omega) rfl, h1 5 _ (by omega) rfl⟩
def GivesK (w : World) (ks : List Key) (e : Ending) (w' : World) : Prop := ∃ A c, e = .returned (.slice A ks.length c) ∧ w'.ownsRow w.heap.size 33 2 (.slice A ks.length c) ks.length (keysC ks) ∧ Below w.heap.size w w'
theorem sorted_eq {a b : List Key} (h : a.Perm b) (ha : a.Pairwise ltK) (hb : b.Pairwise ltK) : a = b :=
  h.eq_of_pairwise (fun x y _ _ h1 h2 => by unfold ltK at *; omega) ha hb
theorem sameK_own (l : List Key) (B C : Option Addr) (c e : Nat) (w : World) {b1 b2 : Nat} (ha : w.ownsRow b1 33 2 (.slice B l.length c) l.length (keysC l)) (hb : w.ownsRow b2 33 2 (.slice C l.length e) l.length (keysC l)) (hl : l.length ≤ 4611686018427387904) :
    Calls Tryz.prog 13 #[.slice B l.length c, .slice C l.length e] w fun e w' => e = .returned (.bool true) ∧ Below w.heap.size w w' := sameK_calls l B C c e w (Reads.of_own ha) (Reads.of_own hb) hl
end Go.Proofs.YtflkddllofeiaaaGreatDoor
