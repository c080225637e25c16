/- Two stores in one memory. -/
import Derived.Test.YtflkddllofeiaaaDoorSees
import Derived.Test.YtflkddllofeiaaaDoorPrA
import Derived.Test.YtflkddllofeiaaaDoorSameK
import Derived.Test.YtflkddllofeiaaaDoorS10
namespace Go.Proofs.YtflkddllofeiaaaDoor
set_option linter.unusedSimpArgs false
set_option linter.unusedVariables false
open Go.RowKit Go.MapKept Go.ChangeMaps Go.Maps

theorem below_after {a b c : World} (h1 : Below a.heap.size a b) (h2 : Below b.heap.size b c) : Below a.heap.size a c := h1.trans (h2.mono h1.size)
structure SS (w0 w : World) (s t : StV) (S : Nat → Prop) : Prop where
  sa : StAt w s
  ta : StAt w t
  dis : ∀ i, s.of i → ¬ t.of i
  ls : ∀ i, s.of i → w0.heap.size ≤ i
  lt : ∀ i, t.of i → w0.heap.size ≤ i
  own : ∀ i, S i → i < w.heap.size ∧ w0.heap.size ≤ i ∧ ¬ s.of i ∧ ¬ t.of i
  bel : Below w0.heap.size w0 w
section
variable {w0 w w' : World} {s s' t t' : StV} {S S' : Nat → Prop}
theorem SS.symm (h : SS w0 w s t S) : SS w0 w t s S := ⟨h.ta, h.sa, fun i hb ha => h.dis i ha hb, h.lt, h.ls, fun i hi => ⟨(h.own i hi).1, (h.own i hi).2.1, (h.own i hi).2.2.2, (h.own i hi).2.2.1⟩, h.bel⟩
theorem SS.left (h : SS w0 w s t S) (hb : But w w' s.of) (ha : StAt w' s') (hn : ∀ i, s'.of i → s.of i ∨ w.heap.size ≤ i) : SS w0 w' s' t S := by
  refine ⟨ha, h.ta.but hb (fun i hi hsi => h.dis i hsi hi), fun i hi hti => ?_, fun i hi => ?_, h.lt, fun i hi => ⟨Nat.lt_of_lt_of_le (h.own i hi).1 hb.size, (h.own i hi).2.1, fun hsi => ?_, (h.own i hi).2.2.2⟩, h.bel.trans (hb.to_below h.ls h.bel.size)⟩
  · rcases hn i hi with h1 | h1
    · exact h.dis i h1 hti
    · have := h.ta.lt hti; omega
  · rcases hn i hi with h1 | h1
    · exact h.ls i h1
    · exact Nat.le_trans h.bel.size h1
  · rcases hn i hsi with h1 | h1
    · exact (h.own i hi).2.2.1 h1
    · have := (h.own i hi).1; omega
theorem SS.right (h : SS w0 w s t S) (hb : But w w' t.of) (ha : StAt w' t') (hn : ∀ i, t'.of i → t.of i ∨ w.heap.size ≤ i) : SS w0 w' s t' S := (h.symm.left hb ha hn).symm
theorem SS.below (h : SS w0 w s t S) (hb : Below w.heap.size w w') : SS w0 w' s t S :=
  ⟨h.sa.below hb, h.ta.below hb, h.dis, h.ls, h.lt, fun i hi => ⟨Nat.lt_of_lt_of_le (h.own i hi).1 hb.size, (h.own i hi).2⟩, below_after h.bel hb⟩
/-- Rows of the law's own laid behind the stores. -/
theorem SS.owns (h : SS w0 w s t S) (hb : Below w.heap.size w w') (hS : ∀ i, S' i → S i ∨ (w.heap.size ≤ i ∧ i < w'.heap.size)) : SS w0 w' s t S' := by
  have h2 := h.below hb
  refine ⟨h2.sa, h2.ta, h2.dis, h2.ls, h2.lt, fun i hi => ?_, h2.bel⟩
  rcases hS i hi with h1 | ⟨h1, h3⟩
  · exact h2.own i h1
  · exact ⟨h3, Nat.le_trans h.bel.size h1, fun hs => by have := h.sa.lt hs; omega, fun ht => by have := h.ta.lt ht; omega⟩
theorem SS.reads {z n : Nat} {A : Option Addr} {xs : List Value} (h : SS w0 w s t S) (hr : Reads w0 w0.heap.size z A n xs) : Reads w w.heap.size z A n xs := (hr.below h.bel).more h.bel.size
theorem SS.two (hb0 : Below w0.heap.size w0 w) (h : StAt w s) (ho : ∀ i, s.of i → w0.heap.size ≤ i) (hb : Below w.heap.size w w') (h' : StAt w' t) (ho' : ∀ i, t.of i → w.heap.size ≤ i) : SS w0 w' s t (fun _ => False) :=
  ⟨h.below hb, h', fun i hi hti => by have := h.lt hi; have := ho' i hti; omega, ho, fun i hi => Nat.le_trans hb0.size (ho' i hi), fun i hi => hi.elim, below_after hb0 hb⟩
end
theorem rows_up {w : World} {s : StV} (h : StAt w s) : ∀ q ∈ s.rows, UpV q.2 := fun q hq => by
  obtain ⟨x, hx, rfl⟩ := List.mem_map.1 hq
  exact (h.chs x hx).up
theorem getR_up {w : World} {s : StV} (h : StAt w s) (k : Key) : UpV (getR s.rows k) := by
  have hn : (s.rows.map (·.1)).Nodup := by rw [rows_keys]; exact h.kn
  rcases mget_cases hn k with ⟨h1, _⟩ | ⟨u, a, c, h1, _⟩
  · unfold getR; rw [h1]; exact UpV.nil
  · unfold getR; rw [h1]; exact rows_up h _ (mget_mem h1)
theorem GoodA.skip {A : AbS} {cs : List CallV} (h : GoodA A cs) (c : CallV) : GoodA A (cs ++ [c]) := by
  refine ⟨?_, h.ne, fun k o => ?_⟩
  · rw [List.length_append]
    exact ⟨Nat.le_trans h.bnd.t (by simp), Nat.le_trans h.bnd.r (by simp), Nat.le_trans h.bnd.b (by simp), h.bnd.nd⟩
  · rw [cntP_snoc]
    exact Nat.le_trans (h.gt k o) (by omega)
theorem prR_idem {M : List (Key × List VerS)} (hn : (M.map (·.1)).Nodup) (hu : ∀ q ∈ M, UpV q.2) (o : Int) {ks : List Key} {k : Key} (hk : k ∈ ks) : prR (M.map (prq o ks)) k o = M.map (prq o ks) := by
  rw [prR_map (by rw [prq_keys]; exact hn), List.map_map]
  refine List.map_congr_left (fun q hq => ?_)
  simp only [Function.comp]
  by_cases h : q.1 = k
  · have h2 : q.1 ∈ ks := h ▸ hk
    have h3 : prq o ks q = (q.1, pruneL q.2 o) := if_pos h2
    rw [h3]
    unfold prq
    rw [if_pos (by simp [h]), (prune_again (hu q hq) o).1]
  · exact prq_not (by rw [prq_fst]; simpa using h)
theorem sorted_eq {a b : List Key} (h : a.Perm b) (ha : a.Pairwise ltK) (hb : b.Pairwise ltK) : a = b :=
  h.eq_of_pairwise (fun x y _ _ h1 h2 => by unfold ltK at *; omega) ha hb
end Go.Proofs.YtflkddllofeiaaaDoor
