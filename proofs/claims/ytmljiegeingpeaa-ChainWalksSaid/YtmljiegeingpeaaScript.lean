/- custodylaw10.ChainScript by a contract (printed by gen_script.py). -/
import Derived.Test.YtmljiegeingpeaaTwo
import Derived.Deep.DeepCutAuto
import Derived.Deep.CutBlock
namespace Go.Proofs.Ytmljiegeingpeaa
set_option linter.unusedSimpArgs false
set_option linter.unusedVariables false
open Go.RowKit

/-- A call of a script: its numbers are numbers of 64 bits. -/
structure OpS where
  on : Int
  kd : Int
  n : Int
  v : ByteArray
  wf : n ≤ 9223372036854775807
def OpS.cs (x : OpS) : List Value := [.int .i64 x.on, .int .i64 x.kd, .int .i64 x.n, .string x.v]
def opsC (l : List OpS) : List Value := l.flatMap OpS.cs
theorem OpS.len (x : OpS) : x.cs.length = 4 := rfl
theorem ops_at {w : World} {B : Nat} {A : Option Addr} {xs : List OpS} (h : Reads w B 4 A xs.length (opsC xs)) {k : Nat} (hk : k < xs.length) :
    ∃ ad, A = some ad ∧ ad.block < B ∧ w.cell? (ad.add (k * 4)) = some (.int .i64 xs[k].on) ∧ w.cell? ⟨(ad.add (k * 4)).block, (ad.add (k * 4)).off + 1, none⟩ = some (.int .i64 xs[k].kd) ∧ w.cell? ⟨(ad.add (k * 4)).block, (ad.add (k * 4)).off + 2, none⟩ = some (.int .i64 xs[k].n) ∧ w.cell? ⟨(ad.add (k * 4)).block, (ad.add (k * 4)).off + 3, none⟩ = some (.string xs[k].v) := by
  obtain ⟨ad, e, hb, h0, h1⟩ := Reads.elem OpS.len h hk
  exact ⟨ad, e, hb, h0 _ rfl, h1 1 _ (by omega) rfl, h1 2 _ (by omega) rfl, h1 3 _ (by omega) rfl⟩

theorem decV (x : List VerS) : decide (x = x) = true := by simp
theorem But.to_below {a b : World} {S : Nat → Prop} {B : Nat} (h : But a b S) (hS : ∀ i, S i → B ≤ i) (hB : B ≤ a.heap.size) : Below B a b :=
  ⟨h.os, h.tape, h.output, h.size, fun k hk => h.block k (by omega) (fun hs => by have := hS k hs; omega)⟩
end Go.Proofs.Ytmljiegeingpeaa
