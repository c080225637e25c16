/- Laws of copy, clear and slices.overlaps at rows of the call's own, elements of any size; no program in them. -/
import Derived.Test.YtcgcgekefhhjhaaDoorClone14
import Derived.Laws.CopyRow
import Derived.Laws.Externs
import Derived.Lib.AppendZerosOnto
import Derived.Lib.Overlaps
import Derived.Lib.SliceRun
namespace Go.Proofs.YtcgcgekefhhjhaaDoor
set_option linter.unusedSimpArgs false
set_option linter.unusedVariables false
open Go.RowKit

theorem wp_run1 {P : Program} (w : World) {o : Oper} {a : Act} {K : Act → World → Prop} {Q : Exit → Act → World → Prop} (d s : Operand) (t t' : TypeId)
    (ho : o.op = .call { callee := .builtin .copy, args := #[d, s], argTypes := #[t, t'] }) (v u : Value) (hd : a.eval d = v) (hs : a.eval s = u) {v' : Value} {w' : World}
    (hr : (Builtin.copy_ #[t, t'] o.type #[v, u]).run P w = .ok v' w') (h : K (a.put o.dst v') w') : o.wp P a w K Q := by
  unfold Oper.wp execOp
  simp only [ho, resolve, invoke, builtin, Sem.run_bind, Sem.run_pure, Result.andThen_ok, List.map_toArray, List.map_cons, List.map_nil, hd, hs, hr]
  exact h
theorem wpList_copyX {P : Program} (w : World) {ops : Array Oper} {rest : List Oper} {o : Oper} {a : Act} {Q : Exit → Act → World → Prop} (hgd : o.guard = none) (d s : Operand) (t t' : TypeId)
    (ho : o.op = .call { callee := .builtin .copy, args := #[d, s], argTypes := #[t, t'] }) (v u : Value) (hd : a.eval d = v) (hs : a.eval s = u) {v' : Value} {w' : World}
    (hr : (Builtin.copy_ #[t, t'] o.type #[v, u]).run P w = .ok v' w') (h : wpList P ops Q rest (a.put o.dst v') w') : wpList P ops Q (o :: rest) a w :=
  wpList_plain hgd fun _ hK => wp_run1 w d s t t' ho v u hd hs hr (hK _ _ h)
theorem step_copyX {P : Program} {ops : Array Oper} {o : Oper} {a : Act} {w : World} {K : Act → World → Prop} {Q : Exit → Act → World → Prop} {E : Prop}
    (hg : o.guard = none) (d x : Operand) (dT sT : TypeId) (hop : o.op = Op.call { callee := Callee.builtin Builtin.copy, args := #[d, x], argTypes := #[dT, sT] })
    (v u : Value) (hd : a.eval d = v) (hx : a.eval x = u) {v' : Value} {w' : World} (hr : (Builtin.copy_ #[dT, sT] o.type #[v, u]).run P w = .ok v' w') (hK : K (a.put o.dst v') w') :
    if Region.wanted o (yielded ops a.tmps) = true then Oper.wp P o a w K Q else E := by
  have hw : Region.wanted o (yielded ops a.tmps) = true := by simp [Region.wanted, hg]
  rw [if_pos hw]
  exact wp_run1 w d x dT sT hop v u hd hx hr hK
theorem wpList_clearX {P : Program} (w : World) {ops : Array Oper} {rest : List Oper} {o : Oper} {a : Act} {Q : Exit → Act → World → Prop} (hgd : o.guard = none) (s : Operand) (t : TypeId)
    (ho : o.op = .call { callee := .builtin .clear, args := #[s], argTypes := #[t] }) (u : Value) (hs : a.eval s = u) {v' : Value} {w' : World}
    (hr : (Builtin.clear_ #[t] o.type #[u]).run P w = .ok v' w') (h : wpList P ops Q rest (a.put o.dst v') w') : wpList P ops Q (o :: rest) a w :=
  wpList_plain hgd fun _ hK => by
    unfold Oper.wp execOp
    simp only [ho, resolve, invoke, builtin, Sem.run_bind, Sem.run_pure, Result.andThen_ok, List.map_toArray, List.map_cons, List.map_nil, hs, hr]
    exact hK _ _ h

/-- A row with so much written from a place on. -/
def layL (cur : Array Value) (o : Nat) (us : List Value) : Array Value := (cur.toList.take o ++ us ++ cur.toList.drop (o + us.length)).toArray
theorem layL_size {cur : Array Value} {o : Nat} {us : List Value} (h : o + us.length ≤ cur.size) : (layL cur o us).size = cur.size := by
  have : cur.toList.length = cur.size := rfl
  simp [layL]
  omega
theorem layL_take {cur : Array Value} {o : Nat} {us : List Value} (h : o + us.length ≤ cur.size) : (layL cur o us).toList.take (o + us.length) = cur.toList.take o ++ us := by
  have : cur.toList.length = cur.size := rfl
  have e : o + us.length = (cur.toList.take o ++ us).length := by simp; omega
  unfold layL
  rw [List.toList_toArray]
  rw [e, List.take_left]
theorem layL_take_le {cur : Array Value} {o k : Nat} {us : List Value} (h : o + us.length ≤ cur.size) (hk : k ≤ o) : (layL cur o us).toList.take k = cur.toList.take k := by
  have h1 := congrArg (List.take k) (layL_take h)
  rw [List.take_take, Nat.min_eq_left (by omega), List.take_append_of_le_length (by simp; have : cur.toList.length = cur.size := rfl; omega), List.take_take, Nat.min_eq_left hk] at h1
  exact h1
theorem layL_seg {cur : Array Value} {o : Nat} {us : List Value} (h : o + us.length ≤ cur.size) (n : Nat) (hn : o + us.length ≤ n) : (layL cur o us).toList.take n = cur.toList.take o ++ us ++ (cur.toList.take n).drop (o + us.length) := by
  have : cur.toList.length = cur.size := rfl
  unfold layL
  rw [List.toList_toArray, List.take_append, List.take_of_length_le (by simp; omega)]
  congr 1
  rw [List.take_drop]
  congr 2
  simp
  omega
theorem layL_eq (cur : Array Value) (o : Nat) (us : List Value) : (cur.toList.take o ++ us ++ cur.toList.drop (o + us.length)).toArray = layL cur o us := rfl

theorem run_copy_rowN {P : Program} (w : World) (dT sT ty elem : TypeId) (size : Nat) (g o dLen dCap : Nat) (a : Addr) (sLen sCap : Nat) (cur : Array Value) (t : TypeId) (cs : List Value)
    (hu : P.underlying dT = some (.slice elem)) (hs : (P.info? elem).map (·.size) = some size)
    (hg : w.heap[g]? = some (.cells cur t (0, 0))) (hn : cs.length = Nat.min sLen dLen * size)
    (hsrc : ∀ j v, cs[j]? = some v → w.cell? (a.add j) = some v) (hfit : o + cs.length ≤ cur.size) (h1 : ∀ v ∈ cs, v.oneCell' = true) :
    (Builtin.copy_ #[dT, sT] ty #[.slice (some ⟨g, o, none⟩) dLen dCap, .slice (some a) sLen sCap]).run P w =
      .ok (goInt (Nat.min sLen dLen)) (w.setRow g (layL cur o cs)) := by
  have hl := run_loadCells_list (P := P) w a cs hsrc
  have hst := run_storeCells_at P g o t cs 0 cur w hg (by simpa using hfit) h1
  cases hq : P.info? elem with
  | none => simp [hq] at hs
  | some i =>
    have hi : i.size = size := by simpa [hq] using hs
    simp [Builtin.copy_, run_underlying hu, Builtin.lenOf, Builtin.firstCells, sizeOf, typeInfo, hq, hi, ← hn, hl, hst, layL]
theorem run_clear_rowN {P : Program} (w : World) (t e ty : TypeId) (z : Value) (ht : P.underlying t = some (.slice e)) (hv : ∀ w, (zeroValue e).run P w = .ok z w) (g o n c : Nat) (cur : Array Value) (tb : TypeId) (zs : List Value) (hn : 0 < n)
    (hz : (Builtin.zeroCells z.cells n).toList = zs) (h1 : ∀ v ∈ zs, v.oneCell' = true) (hg : w.heap[g]? = some (.cells cur tb (0, 0))) (hfit : o + zs.length ≤ cur.size) :
    (Builtin.clear_ #[t] ty #[.slice (some ⟨g, o, none⟩) n c]).run P w = .ok (.tuple #[]) (w.setRow g (layL cur o zs)) := by
  have hst := run_storeCells_at P g o tb zs 0 cur w hg (by simpa using hfit) h1
  obtain ⟨m, rfl⟩ : ∃ m, n = m + 1 := ⟨n - 1, by omega⟩
  simp [Builtin.clear_, run_underlying ht, hv, hz, hst, layL]

theorem blk_setRow {w : World} {g : Nat} {t : TypeId} {cs : Array Value} (h : Blk w g t cs) (cs' : Array Value) : Blk (w.setRow g cs') g t cs' := setRow_heap w g cs cs' t (0, 0) h
theorem grown_setRow (w : World) (g : Nat) (cs : Array Value) : w.grownBy (w.setRow g cs) (some g) :=
  ⟨rfl, rfl, rfl, by simp, fun k _ hk => setRow_other w g k cs (fun e => hk (by rw [e]))⟩
theorem blk_setCellsL {g : Nat} {t : TypeId} : ∀ (us : List Value) (o : Nat) (w : World) (cur : Array Value), Blk w g t cur → o + us.length ≤ cur.size → Blk (w.setCells g o us) g t (layL cur o us)
  | [], o, w, cur, h, hl => by
    have : layL cur o [] = cur := by simp [layL]
    rw [this]; exact h
  | u :: us, o, w, cur, h, hl => by
    have h1 := blk_setCellsL us (o + 1) (w.setCell ⟨g, o, none⟩ u) (cur.setIfInBounds o u) (h.set_ o u) (by simp at hl ⊢; omega)
    have e : layL (cur.setIfInBounds o u) (o + 1) us = layL cur o (u :: us) := by
      unfold layL
      congr 1
      have := list_seg_step cur.toList o u us (by simp at hl ⊢; omega)
      rw [Array.toList_setIfInBounds]
      simpa [Nat.add_assoc, Nat.add_comm 1] using this
    rw [← e]
    exact h1
theorem grown_setCellsL {g : Nat} (us : List Value) (o : Nat) (w : World) : w.grownBy (w.setCells g o us) (some g) := by
  induction us generalizing o w with
  | nil => exact ⟨rfl, rfl, rfl, Nat.le_refl _, fun _ _ _ => rfl⟩
  | cons u us ih =>
    have h := ih (o + 1) (w.setCell ⟨g, o, none⟩ u)
    have hs : (w.setCell ⟨g, o, none⟩ u).heap.size = w.heap.size := World.size_setCell _ _ _
    refine ⟨h.os, h.tape, h.output, by rw [← hs]; exact h.size, fun k hk hne => ?_⟩
    exact (h.block k (by rw [hs]; exact hk) hne).trans (Below.heap_setCell w ⟨g, o, none⟩ u k (fun e => hne (by have e' : k = g := e; rw [e'])))
theorem grown_comp {a b c : World} {row : Option Nat} (h : a.grownBy b row) (k : b.grownBy c row) : a.grownBy c row :=
  ⟨k.os.trans h.os, k.tape.trans h.tape, k.output.trans h.output, Nat.le_trans h.size k.size, fun i hi hn => (k.block i (Nat.lt_of_lt_of_le hi h.size) hn).trans (h.block i hi hn)⟩
theorem grown_none {a b : World} (h : a.grownBy b none) (row : Option Nat) : a.grownBy b row := ⟨h.os, h.tape, h.output, h.size, fun i hi _ => h.block i hi (by simp)⟩
theorem grown_newrow {a b c : World} {g : Nat} (h : a.grownBy b none) (k : b.grownBy c (some g)) (hg : a.heap.size ≤ g) : a.grownBy c none :=
  ⟨k.os.trans h.os, k.tape.trans h.tape, k.output.trans h.output, Nat.le_trans h.size k.size, fun i hi hn => (k.block i (Nat.lt_of_lt_of_le hi h.size) (by intro e; injection e; omega)).trans (h.block i hi hn)⟩
theorem below_of_grown {a b : World} {B : Nat} {row : Option Nat} (h : a.grownBy b row) (hr : ∀ g, row = some g → B ≤ g) (hB : B ≤ a.heap.size) : Below B a b :=
  ⟨h.os, h.tape, h.output, Nat.le_trans (Nat.le_refl _) h.size, fun i hi => h.block i (by omega) (fun e => by have := hr i e.symm; omega)⟩
end Go.Proofs.YtcgcgekefhhjhaaDoor
