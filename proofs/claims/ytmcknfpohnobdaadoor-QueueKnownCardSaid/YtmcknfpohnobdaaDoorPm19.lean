/- A queue and the document's in one memory. -/
import Derived.Test.YtmcknfpohnobdaaDoorSim19
import Derived.Test.YtmcknfpohnobdaaDoorQ9
import Derived.Test.YtmcknfpohnobdaaDoorKeysKit
import Derived.Test.YtmcknfpohnobdaaDoorPlain
namespace Go.Proofs.YtmcknfpohnobdaaDoor
set_option linter.unusedSimpArgs false
set_option linter.unusedVariables false
open Go.RowKit Go.MapKept Go.ChangeMaps Go.Maps

structure RV where
  q : Nat
  room : Int
  v : Value
  M : List RE
def RV.at_ (d : RV) (w : World) : Prop := RAt w d.q d.room d.v d.M
def RV.of (d : RV) (i : Nat) : Prop := OfR d.q d.v d.M i
structure PM (w0 w : World) (a : QV) (d : RV) (S : Nat → Prop) : Prop where
  qa : a.at_ w
  ra : d.at_ w
  dis : ∀ i, a.of i → ¬ d.of i
  la : ∀ i, a.of i → w0.heap.size ≤ i
  ld : ∀ i, d.of i → w0.heap.size ≤ i
  own : ∀ i, S i → i < w.heap.size ∧ ¬ a.of i ∧ ¬ d.of i
  ls : ∀ i, S i → w0.heap.size ≤ i
  bel : Below w0.heap.size w0 w
section
variable {w0 w w' : World} {a a' : QV} {d d' : RV} {S S' : Nat → Prop}
theorem RAt.ofAt (h : d.at_ w) {i : Nat} (hi : d.of i) : i < w.heap.size := RAt.lt h hi
theorem PM.left (h : PM w0 w a d S) (hb : But w w' a.of) (ha : a'.at_ w') (hn : ∀ i, a'.of i → a.of i ∨ w.heap.size ≤ i) : PM w0 w' a' d S := by
  refine ⟨ha, RAt.but h.ra hb (fun i hi ha => h.dis i ha hi), fun i hi hbi => ?_, fun i hi => ?_, h.ld, fun i hi => ⟨Nat.lt_of_lt_of_le (h.own i hi).1 hb.size, fun hai => ?_, (h.own i hi).2.2⟩, h.ls, h.bel.trans (hb.to_below h.la h.bel.size)⟩
  · rcases hn i hi with h1 | h1
    · exact h.dis i h1 hbi
    · have := RAt.ofAt h.ra hbi; omega
  · rcases hn i hi with h1 | h1
    · exact h.la i h1
    · exact Nat.le_trans h.bel.size h1
  · rcases hn i hai with h1 | h1
    · exact (h.own i hi).2.1 h1
    · have := (h.own i hi).1; omega
theorem PM.right (h : PM w0 w a d S) (hb : But w w' d.of) (hd : d'.at_ w') (hn : ∀ i, d'.of i → d.of i ∨ w.heap.size ≤ i) : PM w0 w' a d' S := by
  refine ⟨QAt.but h.qa hb (fun i hi hd => h.dis i hi hd), hd, fun i hi hbi => ?_, h.la, fun i hi => ?_, fun i hi => ⟨Nat.lt_of_lt_of_le (h.own i hi).1 hb.size, (h.own i hi).2.1, fun hai => ?_⟩, h.ls, h.bel.trans (hb.to_below h.ld h.bel.size)⟩
  · rcases hn i hbi with h1 | h1
    · exact h.dis i hi h1
    · have := QAt.lt h.qa hi; omega
  · rcases hn i hi with h1 | h1
    · exact h.ld i h1
    · exact Nat.le_trans h.bel.size h1
  · rcases hn i hai with h1 | h1
    · exact (h.own i hi).2.2 h1
    · have := (h.own i hi).1; omega
theorem PM.below (h : PM w0 w a d S) (hb : Below w.heap.size w w') : PM w0 w' a d S :=
  ⟨QAt.below h.qa hb, RAt.below h.ra hb, h.dis, h.la, h.ld, fun i hi => ⟨Nat.lt_of_lt_of_le (h.own i hi).1 hb.size, (h.own i hi).2⟩, h.ls, below_after h.bel hb⟩
/-- One's own blocks written, or new ones told. -/
theorem PM.grow (h : PM w0 w a d S) (hb : But w w' S) (hS : ∀ i, S' i → S i ∨ (w.heap.size ≤ i ∧ i < w'.heap.size)) : PM w0 w' a d S' := by
  refine ⟨QAt.but h.qa hb (fun i hi e => (h.own i e).2.1 hi), RAt.but h.ra hb (fun i hi e => (h.own i e).2.2 hi), h.dis, h.la, h.ld, fun i hi => ?_, fun i hi => ?_, h.bel.trans (hb.to_below h.ls h.bel.size)⟩
  · rcases hS i hi with h1 | ⟨h1, h2⟩
    · exact ⟨Nat.lt_of_lt_of_le (h.own i h1).1 hb.size, (h.own i h1).2⟩
    · exact ⟨h2, fun ha => by have := QAt.lt h.qa ha; omega, fun hb' => by have := RAt.ofAt h.ra hb'; omega⟩
  · rcases hS i hi with h1 | ⟨h1, _⟩
    · exact h.ls i h1
    · exact Nat.le_trans h.bel.size h1
theorem PM.reads {s n : Nat} {A : Option Addr} {xs : List Value} (h : PM w0 w a d S) (hr : Reads w0 w0.heap.size s A n xs) : Reads w w.heap.size s A n xs := (hr.below h.bel).more h.bel.size
theorem PM.readsQ {s n : Nat} {A : Option Addr} {xs : List Value} (h : PM w0 w a d S) (hr : Reads w0 w0.heap.size s A n xs) : ∀ w', But w w' a.of → Reads w' w'.heap.size s A n xs := fun w' hb =>
  have hB := h.bel.trans (hb.to_below h.la h.bel.size)
  (hr.below hB).more hB.size
theorem PM.readsR {s n : Nat} {A : Option Addr} {xs : List Value} (h : PM w0 w a d S) (hr : Reads w0 w0.heap.size s A n xs) : ∀ w', But w w' d.of → Reads w' w'.heap.size s A n xs := fun w' hb =>
  have hB := h.bel.trans (hb.to_below h.ld h.bel.size)
  (hr.below hB).more hB.size
theorem PM.hg (h : PM w0 w a d S) (hG : HG w0) : HG w := hG.below h.bel
/-- A block of one's own is kept by what turns either. -/
theorem PM.blkQ {g : Nat} {t : TypeId} {cs : Array Value} (h : PM w0 w a d S) (hS : S g) (hb : But w w' a.of) (hk : Blk w g t cs) : Blk w' g t cs := hk.but hb (h.own g hS).2.1
theorem PM.blkR {g : Nat} {t : TypeId} {cs : Array Value} (h : PM w0 w a d S) (hS : S g) (hb : But w w' d.of) (hk : Blk w g t cs) : Blk w' g t cs := hk.but hb (h.own g hS).2.2
theorem PM.ownQ {base s n : Nat} {e : TypeId} {v : Value} {xs : List Value} (h : PM w0 w a d S) (hS : ∀ b, v.ownBlock = some b → S b) (hb : But w w' a.of) (hk : w.ownsRow base e s v n xs) : w'.ownsRow base e s v n xs := own_but hk hb (fun b hb' => (h.own b (hS b hb')).2.1)
theorem PM.ownR {base s n : Nat} {e : TypeId} {v : Value} {xs : List Value} (h : PM w0 w a d S) (hS : ∀ b, v.ownBlock = some b → S b) (hb : But w w' d.of) (hk : w.ownsRow base e s v n xs) : w'.ownsRow base e s v n xs := own_but hk hb (fun b hb' => (h.own b (hS b hb')).2.2)
end
theorem reads_pre19 {w : World} {B : Nat} {A : Option Addr} {n : Nat} {l m : List Key} (h : Reads w B 2 A n (keysC (l ++ m))) (hn : n = l.length + m.length) : Reads w B 2 A l.length (keysC l) := by
  refine ⟨flat_length Key.len l, fun h0 => ?_⟩
  obtain ⟨ad, e, hb, hc⟩ := h.2 (by omega)
  refine ⟨ad, e, hb, fun j u hu => hc j u ?_⟩
  unfold keysC at hu ⊢
  rw [List.flatMap_append, List.getElem?_append_left (List.getElem?_eq_some_iff.1 hu).1]
  exact hu
theorem row_there {w : World} {base s g n c : Nat} {e : TypeId} {xs : List Value} (h : w.ownsRow base e s (.slice (some ⟨g, 0, none⟩) n c) n xs) {i : Nat} (hi : i < n * s) : ∃ u, w.cell? ⟨g, i, none⟩ = some u := by
  obtain ⟨ad, e, _, hc⟩ := (Reads.of_own h).2 (by rcases Nat.eq_zero_or_pos n with h0 | h0; · subst h0; omega
                                                  · exact h0)
  injection e with e
  subst e
  have hl : i < xs.length := by rw [h.1]; exact hi
  exact ⟨xs[i], by have := hc i xs[i] (List.getElem?_eq_getElem hl); rwa [row_add0] at this⟩
/-- The two hold the same. -/
structure Same19 (a : QV) (d : RV) : Prop where
  room : a.room = d.room
  rel : RelL a.L d.M
  kl : ∀ x ∈ d.M, x.keys.length ≤ 8796093030000
/-- What a step of the script leaves. -/
structure StepR (w0 w w' : World) (a : QV) (d : RV) (a' : QV) (d' : RV) : Prop where
  pm : PM w0 w' a' d' (fun _ => False)
  same : Same19 a' d'
  but : But w w' (fun i => a.of i ∨ d.of i)
  na : ∀ i, a'.of i → a.of i ∨ w.heap.size ≤ i
  nd : ∀ i, d'.of i → d.of i ∨ w.heap.size ≤ i
  p : a'.p = a.p
  q : d'.q = d.q
  len : a'.L.length ≤ a.L.length + 1
/-- One kind of step: the queue and the document's each do a thing. -/
def opCells (on kd id : Int) (A : Option Addr) (n c : Nat) : List Value := [.int .i64 on, .int .i64 kd, .int .i64 id, .slice A n c]
structure StepH (w0 w : World) (a : QV) (d : RV) (id : Int) (ks : List Key) (A : Option Addr) (c n : Nat) : Prop where
  pm : PM w0 w a d (fun _ => False)
  same : Same19 a d
  len : a.L.length ≤ n
  nn : n ≤ 2932031007316
  hG : HG w0
  wf : wfI id
  ks : KeysIn w0 w0.heap.size A c ks
end Go.Proofs.YtmcknfpohnobdaaDoor
