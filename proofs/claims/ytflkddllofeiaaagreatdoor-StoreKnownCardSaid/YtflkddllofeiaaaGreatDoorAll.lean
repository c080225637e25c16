/- The walk over a chain: chain.All, by the contract of an iterator. -/
import Derived.Test.YtflkddllofeiaaaGreatDoorSameV
import Derived.RangeFuncNested
import Derived.RangeFuncBound
import Derived.RangeFuncCalls
import Derived.RangeFuncLeaves
import Derived.Shelf.Abstract
import Derived.OwnWalkIn
import Derived.TacticsInMore
import Derived.LoopNIn
import Derived.LoopIn
namespace Go.Proofs.YtflkddllofeiaaaGreatDoor
set_option linter.unusedSimpArgs false
set_option linter.unusedVariables false
open Go.RowKit Go.Shelf
attribute [local go_sem] Oper.semAt_some

/-- The blocks of K lie as they lay. -/
structure KeepK (K : Nat → Prop) (W W' : World) : Prop where
  size : W.heap.size ≤ W'.heap.size
  block : ∀ i, K i → W'.heap[i]? = W.heap[i]?
section
variable {K : Nat → Prop} {A B C : World}
theorem KeepK.refl (K : Nat → Prop) (W : World) : KeepK K W W := ⟨Nat.le_refl _, fun _ _ => rfl⟩
theorem KeepK.trans (h : KeepK K A B) (k : KeepK K B C) : KeepK K A C := ⟨Nat.le_trans h.size k.size, fun i hi => (k.block i hi).trans (h.block i hi)⟩
theorem KeepK.of_below (h : Below A.heap.size A B) (hK : ∀ i, K i → i < A.heap.size) : KeepK K A B := ⟨h.size, fun i hi => h.block i (hK i hi)⟩
theorem KeepK.of_but {S : Nat → Prop} (h : But A B S) (hK : ∀ i, K i → i < A.heap.size ∧ ¬ S i) : KeepK K A B := ⟨h.size, fun i hi => h.block i (hK i hi).1 (hK i hi).2⟩
theorem KeepK.put {w : World} (hK : ∀ i, K i → i < w.heap.size) (W : World) (l : Nat) (o o' : Obj) (hl : w.heap.size ≤ l) (h : W.heap[l]? = some o) (_ : o.isCells = false) (_ : o.isWalk = false) : KeepK K W (W.putObj l o') :=
  ⟨(grownBy_putObj' W l o').size, fun i hi => World.putObj_heap_other (by have := hK i hi; omega)⟩
theorem KeepK.setCell (h : KeepK K A B) {p : Addr} (hp : ¬ K p.block) (u : Value) : KeepK K A (B.setCell p u) :=
  ⟨by simpa using h.size, fun i hi => (Below.heap_setCell B p u i (fun e => hp (e ▸ hi))).trans (h.block i hi)⟩
theorem Blk.keep {g : Nat} {t : TypeId} {cs : Array Value} (h : Blk A g t cs) (hb : KeepK K A B) (hg : K g) : Blk B g t cs := (hb.block g hg).trans h
theorem own_keep {base : Nat} {e : TypeId} {size n : Nat} {v : Value} {xs : List Value} (h : A.ownsRow base e size v n xs) (hb : KeepK K A B) (hs : ∀ b, v.ownBlock = some b → K b) : B.ownsRow base e size v n xs := by
  refine ⟨h.1, ?_⟩
  rcases h.2 with h0 | ⟨g, cap, cur, rfl, h1, h2, h3⟩
  · exact .inl h0
  · exact .inr ⟨g, cap, cur, rfl, h1, (hb.block g (hs g rfl)).trans h2, h3⟩
theorem Chn.keep {p : Nat} {sv : Value} {L : List VerS} (h : Chn A p sv L) (hb : KeepK K A B) (hS : ∀ i, OfC p sv i → K i) : Chn B p sv L :=
  ⟨h.blk.keep hb (hS p (.inl rfl)), own_keep h.row hb (fun b he => hS b (.inr he)), h.up, h.len⟩
theorem Chn.grown {p : Nat} {sv : Value} {L : List VerS} {row : Option Nat} (h : Chn A p sv L) (hg : A.grownBy B row) (hr : ∀ r, row = some r → ¬ OfC p sv r) : Chn B p sv L :=
  h.but (S := fun i => row = some i) ⟨hg.os, hg.tape, hg.output, hg.size, fun k hk hn => hg.block k hk (fun e => hn e.symm)⟩ (fun i hi he => hr i he hi)
end

theorem leN_last {L : List VerS} (h : UpV L) {k : Nat} (hk : k ≤ L.length) : leN L (lastNo (L.take k)) = k := by
  refine le_split hk (fun j hj hjk => ?_) (fun j hj hkj => ?_)
  · have : 0 < (L.take k).length := by simp; omega
    rw [lastNo_pos this]
    simp only [List.length_take, List.getElem_take]
    exact h.le (by omega) (by omega)
  · by_cases h0 : k = 0
    · subst h0; simp [lastNo]; have := h.2 L[j] (by simp); omega
    · have : 0 < (L.take k).length := by simp; omega
      rw [lastNo_pos this]
      simp only [List.length_take, List.getElem_take]
      exact h.lt (by omega) hj

set_option maxRecDepth 100000 in
set_option maxHeartbeats 1000000 in
theorem all_calls (p : Nat) (w : World) : Calls Tryz.prog 89 #[.pointer (some ⟨p, 0, none⟩)] w
    fun e w' => e = .returned (.func (.func 114) #[] #[.pointer (some ⟨w.heap.size, 0, none⟩)]) ∧ w' = w.alloc (.cells #[.pointer (some ⟨p, 0, none⟩)] 80) := by
  go_enter Tryz.func89, Tryz.ntmps89
  go_wp2
  go_ret
  exact ⟨rfl, rfl⟩

/-- What a walk keeps: the box, the chain. -/
def WalkK (b p : Nat) (sv : Value) (i : Nat) : Prop := i = b ∨ OfC p sv i

set_option maxRecDepth 100000 in
set_option maxHeartbeats 4000000 in
theorem all_stops (n : Nat) (hn : 1 ≤ n) (b p : Nat) (sv : Value) (L : List VerS) (w : World) (hb : Blk w b 80 #[.pointer (some ⟨p, 0, none⟩)]) (hc : Chn w p sv L) :
    SeqStopsK Fence.wide n Tryz.prog 114 #[.pointer (some ⟨b, 0, none⟩)] (fun x : VerS => #[.int .i64 x.n, .string x.v]) (KeepK (WalkK b p sv)) (fun ys => ys = L) (fun pre => pre <+: L) L.length w := by
  intro l J Jx W hW hJ hJx hY h0
  have hbW := hb.below hW hb.lt
  have hcW := hc.below hW
  refine callsIn_of_wp Tryz.func114 rfl trivial ?_ rfl
  simp only [Tryz.ntmps114, List.size_toArray, List.length_cons, List.length_nil, Nat.reduceAdd, Nat.reduceSub, Array.replicate_succ, Array.replicate_zero, List.push_toArray, List.append_toArray, List.nil_append, List.cons_append]
  have k0 : W.cell? ⟨b, 0, none⟩ = some (.pointer (some ⟨p, 0, none⟩)) := hbW.cell 0
  have HC := Lib.hid hcW
  have HBW := Lib.hid hbW
  have HJ := Lib.hid hJ
  have HY := Lib.hid hY
  have H0 := Lib.hid h0
  clear hcW hbW hJ hJx hY h0
  gi_wp2_with (first | (refine ⟨trivial, ?_⟩; gi_at_call 96; refine (callsIn_wide.2 (above_calls (-1) W HC.out)).mono ?_; rintro e w1 ⟨rfl, hb1⟩))
  gi_loopw [3, 4] (fun la i wr => ∃ k : Nat, k ≤ L.length ∧ la = .int .i64 (lastNo (L.take k)) ∧ i = .int .i64 k ∧ J (L.take k) wr ∧ KeepK (WalkK b p sv) W wr) (fun _ i _ => L.length - (intOf i).toNat)
  case atStart =>
    refine ⟨0, Nat.zero_le _, rfl, ?_, HJ.out _ W w1 none H0.out ⟨hb1.os, hb1.tape, hb1.output, hb1.size, fun k hk _ => hb1.block k hk⟩ (fun r e => by cases e), KeepK.of_below hb1 ?_⟩
    · have := leN_last HC.out.up (k := 0) (Nat.zero_le _)
      simp [lastNo] at this
      rw [this]
    · rintro i (rfl | hi)
      · exact HBW.out.lt
      · exact HC.out.of_lt hi
  case round =>
    clear hb1 w1
    obtain ⟨k, hk, rfl, rfl, hJs, hK⟩ := hrel
    have hCr := HC.out.keep hK (fun i hi => .inr hi)
    have hBr := HBW.out.keep hK (.inl rfl)
    have q0 : wr.cell? ⟨b, 0, none⟩ = some (.pointer (some ⟨p, 0, none⟩)) := hBr.cell 0
    obtain ⟨A, c, rfl⟩ := own_slice hCr.row
    have q1 : wr.cell? ⟨p, 0, none⟩ = some (.slice A L.length c) := hCr.blk.cell 0
    have HCR := Lib.hid hCr
    have HBR := Lib.hid hBr
    have HK := Lib.hid hK
    by_cases hlt : k < L.length
    · have hkl : (k : Int) < L.length := by omega
      obtain ⟨ad, rfl, hadb, e0, e1⟩ := vers_at (Reads.of_own hCr.row) hlt
      have htk : L.take (k + 1) = L.take k ++ [L[k]] := by rw [List.take_succ_eq_append_getElem hlt]
      have hln : lastNo (L.take (k + 1)) = L[k].n := by rw [htk, lastNo_snoc]
      have hle2 : leN L L[k].n = k + 1 := by rw [← hln]; exact leN_last hCr.up (by omega)
      generalize hx : L[k] = x at e0 e1 htk hln hle2
      have HTK := Lib.hid htk
      have HLN := Lib.hid hln
      have HLE := Lib.hid hle2
      obtain ⟨W1, hW1⟩ : ∃ W1, wr.alloc (.cells #[.int .i64 x.n, .string x.v] 133) = W1 := ⟨_, rfl⟩
      have hJ1 : J (L.take k) W1 := HJ.out _ wr W1 none hJs (hW1 ▸ World.grownBy_alloc wr _ none) (fun r e => by cases e)
      have hBW1 : Below wr.heap.size wr W1 := hW1 ▸ (Below.refl _ _).alloc (Nat.le_refl _) _
      have hK1 : KeepK (WalkK b p (.slice (some ad) L.length c)) W W1 := hK.trans (KeepK.of_below hBW1 (by
        rintro i (rfl | hi)
        · exact HBR.out.lt
        · exact HCR.out.of_lt hi))
      obtain ⟨fn, tmps, assign, body, hy, hR⟩ := HY.out _ x W1 hJ1 (by simp; omega)
      have hXB : Blk W1 wr.heap.size 133 #[.int .i64 x.n, .string x.v] := hW1 ▸ Blk.new _ _ _
      have x0 : W1.cell? ⟨wr.heap.size, 0, none⟩ = some (.int .i64 x.n) := hXB.cell 0
      have x1 : W1.cell? ⟨wr.heap.size, 1, none⟩ = some (.string x.v) := hXB.cell 1
      have HK1 := Lib.hid hK1
      clear hCr hBr hK htk hln hle2 hx hJ1 hBW1 hK1 hJs hXB
      gi_wp2
      refine hR.mono ?_
      rintro e W3 (⟨rfl, hJ3, hk3⟩ | ⟨rfl, hJx3⟩)
      · have hK3 := HK1.out.trans hk3
        have hC3 := HC.out.keep hK3 (fun i hi => .inr hi)
        have hB3 := HBW.out.keep hK3 (.inl rfl)
        have r0 : W3.cell? ⟨b, 0, none⟩ = some (.pointer (some ⟨p, 0, none⟩)) := hB3.cell 0
        have HJ3 := Lib.hid hJ3
        have HC3 := Lib.hid hC3
        have HB3 := Lib.hid hB3
        have HK3 := Lib.hid hK3
        clear hJ3 hk3 hC3 hB3 hK3 q0 q1 e0 e1 x0 x1 hy hR
        gi_wp2_with (first | (refine ⟨trivial, ?_⟩; gi_at_call 96; refine (callsIn_wide.2 (above_calls x.n W3 HC3.out)).mono ?_; rintro e w4 ⟨rfl, hb4⟩; rw [HLE.out]))
        go_roundw
        case rel =>
          refine ⟨k + 1, by omega, by rw [HLN.out], by go_num, ?_, HK3.out.trans (KeepK.of_below hb4 ?_)⟩
          · rw [HTK.out]
            exact HJ.out _ W3 w4 none HJ3.out ⟨hb4.os, hb4.tape, hb4.output, hb4.size, fun k hk _ => hb4.block k hk⟩ (fun r e => by cases e)
          · rintro i (rfl | hi)
            · exact HB3.out.lt
            · exact HC3.out.of_lt hi
        case measure => simp [intOf]; omega
      · have HX3 := Lib.hid hJx3
        clear hJx3 hy hR
        gi_wp2
        refine bodyPost_ret (results_none rfl _ _ _) rfl ?_
        exact ⟨⟨_, rfl⟩, .inr ⟨_, by rw [← HTK.out]; exact List.take_prefix _ _, HX3.out⟩⟩
    · obtain rfl : k = L.length := by omega
      rw [List.take_length] at hJs
      have HJS := Lib.hid hJs
      clear hCr hBr hK hJs
      gi_wp2
      go_end0
      exact ⟨⟨_, rfl⟩, .inl ⟨_, rfl, HJS.out⟩⟩
end Go.Proofs.YtflkddllofeiaaaGreatDoor
