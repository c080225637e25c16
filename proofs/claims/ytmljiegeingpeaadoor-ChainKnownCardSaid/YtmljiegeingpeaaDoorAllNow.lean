/- A chain's walk while the chain is turned: what it hands a round is the next version of the chain as it lies then. -/
import Derived.Test.YtmljiegeingpeaaDoorRangeNow
import Derived.Test.YtmljiegeingpeaaDoorActs
namespace Go.Proofs.YtmljiegeingpeaaDoor
set_option linter.unusedSimpArgs false
set_option linter.unusedVariables false
open Go.RowKit

/-- There is a chain at p. -/
def HasC (p : Nat) (W : World) : Prop := ∃ sv L, Chn W p sv L ∧ MaxV L
def BoxC (b p : Nat) (W : World) : Prop := Blk W b 23 #[.pointer (some ⟨p, 0, none⟩)]
/-- What a round keeps: the box; that there is a chain. -/
def KeepC (b p : Nat) (W W' : World) : Prop := (BoxC b p W → BoxC b p W') ∧ (HasC p W → HasC p W')
/-- The next version. -/
def NextC (p : Nat) (pre : List VerS) (x : VerS) (W : World) : Prop := ∃ sv L, Chn W p sv L ∧ MaxV L ∧ L[leN L (lastNo pre)]? = some x
/-- There is no next version. -/
def EndC (p : Nat) (xs : List VerS) (W : World) : Prop := ∃ sv L, Chn W p sv L ∧ MaxV L ∧ leN L (lastNo xs) = L.length
theorem KeepC.trans {b p : Nat} {A B C : World} (h : KeepC b p A B) (k : KeepC b p B C) : KeepC b p A C := ⟨fun x => k.1 (h.1 x), fun x => k.2 (h.2 x)⟩
theorem chn_put {W : World} {p l : Nat} {sv : Value} {L : List VerS} {o : Obj} (h : Chn W p sv L) (hl : W.heap[l]? = some o) (ho : o.isCells = false) (o' : Obj) : Chn (W.putObj l o') p sv L :=
  ⟨blk_put h.blk hl ho o', own_kept2 h.row (grownBy_putObj' W l o') (fun r e => by cases e; exact ⟨_, hl, ho⟩), h.up, h.len⟩
theorem KeepC.put {b p l : Nat} {W : World} {o : Obj} (hl : W.heap[l]? = some o) (ho : o.isCells = false) (o' : Obj) : KeepC b p W (W.putObj l o') :=
  ⟨fun h => blk_put h hl ho o', fun ⟨sv, L, h, hm⟩ => ⟨sv, L, chn_put h hl ho o', hm⟩⟩
theorem NextC.put {p l : Nat} {W : World} {o : Obj} {pre : List VerS} {x : VerS} (h : NextC p pre x W) (hl : W.heap[l]? = some o) (ho : o.isCells = false) (o' : Obj) : NextC p pre x (W.putObj l o') := by
  obtain ⟨sv, L, h1, h2, h3⟩ := h
  exact ⟨sv, L, chn_put h1 hl ho o', h2, h3⟩
theorem EndC.put {p l : Nat} {W : World} {o : Obj} {xs : List VerS} (h : EndC p xs W) (hl : W.heap[l]? = some o) (ho : o.isCells = false) (o' : Obj) : EndC p xs (W.putObj l o') := by
  obtain ⟨sv, L, h1, h2, h3⟩ := h
  exact ⟨sv, L, chn_put h1 hl ho o', h2, h3⟩

set_option maxRecDepth 100000 in
set_option maxHeartbeats 4000000 in
theorem all_now (n : Nat) (hn : 1 ≤ n) (b p : Nat) (w : World) (hb : BoxC b p w) (hc : HasC p w) :
    SeqNow Fence.wide n Tryd.prog 34 #[.pointer (some ⟨b, 0, none⟩)] (fun x : VerS => #[.int .i64 x.n, .string x.v]) (NextC p) (KeepC b p) (EndC p) w := by
  obtain ⟨sv0, L0, hc0, hm0⟩ := hc
  intro l J Jx W hW hJ hJx hY h0
  have hbW : BoxC b p W := hb.below hW hb.lt
  have hcW := hc0.below hW
  refine callsIn_of_wp Tryd.func34 rfl trivial ?_ rfl
  simp only [Tryd.ntmps34, List.size_toArray, List.length_cons, List.length_nil, Nat.reduceAdd, Nat.reduceSub, Array.replicate_succ, Array.replicate_zero, List.push_toArray, List.append_toArray, List.nil_append, List.cons_append]
  have k0 : W.cell? ⟨b, 0, none⟩ = some (.pointer (some ⟨p, 0, none⟩)) := hbW.cell 0
  have HC := Lib.hid hcW
  have HBW := Lib.hid hbW
  have HJ := Lib.hid hJ
  have HY := Lib.hid hY
  have H0 := Lib.hid h0
  have HM0 := Lib.hid hm0
  clear hcW hbW hJ hJx hY h0 hb hc0 hW hm0
  gi_wp2_with (first | (refine ⟨trivial, ?_⟩; gi_at_call 33; refine (callsIn_wide.2 (above_calls (-1) W HC.out)).mono ?_; rintro e w1 ⟨rfl, hb1⟩))
  gi_loopw [3, 4] (fun la i wr => ∃ (pre : List VerS) (sv : Value) (L : List VerS), Chn wr p sv L ∧ MaxV L ∧ la = .int .i64 (lastNo pre) ∧ i = .int .i64 (leN L (lastNo pre)) ∧ -1 ≤ lastNo pre ∧ J pre wr ∧ BoxC b p wr) (fun la _ _ => (9223372036854775807 - intOf la).toNat)
  case atStart =>
    exact ⟨[], sv0, L0, HC.out.below hb1, HM0.out, rfl, rfl, by simp [lastNo], HJ.out _ W w1 none H0.out ⟨hb1.os, hb1.tape, hb1.output, hb1.size, fun k hk _ => hb1.block k hk⟩ (fun r e => by cases e), HBW.out.below hb1 HBW.out.lt⟩
  case round =>
    clear hb1 w1 HC HBW H0 k0 HM0
    obtain ⟨pre, sv, L, hC, hM, rfl, rfl, hlo, hJs, hBx⟩ := hrel
    have q0 : wr.cell? ⟨b, 0, none⟩ = some (.pointer (some ⟨p, 0, none⟩)) := hBx.cell 0
    obtain ⟨A, c, rfl⟩ := own_slice hC.row
    have q1 : wr.cell? ⟨p, 0, none⟩ = some (.slice A L.length c) := hC.blk.cell 0
    have hkle := leN_le L (lastNo pre)
    by_cases hlt : leN L (lastNo pre) < L.length
    · have hxn : lastNo pre < L[leN L (lastNo pre)].n := by
        rcases Int.lt_or_le (lastNo pre) L[leN L (lastNo pre)].n with h1 | h1
        · exact h1
        · exact absurd ((leN_lt hC.up (n := lastNo pre) hlt).2 h1) (Nat.lt_irrefl _)
      have hxm : L[leN L (lastNo pre)].n ≤ 9223372036854775807 := hM _ (by simp)
      have hnx : L[leN L (lastNo pre)]? = some L[leN L (lastNo pre)] := List.getElem?_eq_getElem hlt
      obtain ⟨k, hk⟩ : ∃ k, leN L (lastNo pre) = k := ⟨_, rfl⟩
      have hlt2 : k < L.length := hk ▸ hlt
      have hkl : (k : Int) < L.length := by omega
      obtain ⟨ad, rfl, hadb, e0, e1⟩ := vers_at (Reads.of_own hC.row) hlt2
      obtain ⟨x, hx⟩ : ∃ x, L[k] = x := ⟨_, rfl⟩
      have hxe : L[leN L (lastNo pre)] = x := by rw [← hx]; congr 1
      rw [hxe] at hxn hxm hnx
      rw [hx] at e0 e1
      rw [hk]
      have HXN := Lib.hid hxn
      have HXM := Lib.hid hxm
      have HNX := Lib.hid hnx
      have HCR := Lib.hid hC
      have HMR := Lib.hid hM
      have HBR := Lib.hid hBx
      have HLO := Lib.hid hlo
      obtain ⟨lp, hlp⟩ : ∃ lp, lastNo pre = lp := ⟨_, rfl⟩
      have HLP := Lib.hid hlp
      rw [hlp]
      obtain ⟨W1, hW1⟩ : ∃ W1, wr.alloc (.cells #[.int .i64 x.n, .string x.v] 78) = W1 := ⟨_, rfl⟩
      have hJ1 : J pre W1 := HJ.out _ wr W1 none hJs (hW1 ▸ World.grownBy_alloc wr _ none) (fun r e => by cases e)
      have hBW1 : Below wr.heap.size wr W1 := hW1 ▸ (Below.refl _ _).alloc (Nat.le_refl _) _
      have hC1 : Chn W1 p (.slice (some ad) L.length c) L := hC.below hBW1
      have hB1 : BoxC b p W1 := hBx.below hBW1 hBx.lt
      obtain ⟨fn, tmps, assign, body, hy, hR⟩ := HY.out _ x W1 hJ1 ⟨_, L, hC1, hM, hnx⟩
      have hXB : Blk W1 wr.heap.size 78 #[.int .i64 x.n, .string x.v] := hW1 ▸ Blk.new _ _ _
      have x0 : W1.cell? ⟨wr.heap.size, 0, none⟩ = some (.int .i64 x.n) := hXB.cell 0
      have x1 : W1.cell? ⟨wr.heap.size, 1, none⟩ = some (.string x.v) := hXB.cell 1
      have HB1 := Lib.hid hB1
      have HC1 := Lib.hid hC1
      clear hC hM hBx hlo hxn hxm hnx hxe hJ1 hBW1 hJs hXB hC1 hB1 hlp hx hkle hlt hk
      gi_wp2
      refine hR.mono ?_
      rintro e W3 (⟨rfl, hJ3, hk3⟩ | ⟨rfl, hJx3⟩)
      · obtain ⟨sv3, L3, hC3, hM3⟩ := hk3.2 ⟨_, L, HC1.out, HMR.out⟩
        have hB3 := hk3.1 HB1.out
        have r0 : W3.cell? ⟨b, 0, none⟩ = some (.pointer (some ⟨p, 0, none⟩)) := hB3.cell 0
        have HJ3 := Lib.hid hJ3
        have HC3 := Lib.hid hC3
        have HB3 := Lib.hid hB3
        have HM3 := Lib.hid hM3
        clear hJ3 hk3 hC3 hB3 hM3 q0 q1 e0 e1 x0 x1 hy hR
        gi_wp2_with (first | (refine ⟨trivial, ?_⟩; gi_at_call 33; refine (callsIn_wide.2 (above_calls x.n W3 HC3.out)).mono ?_; rintro e w4 ⟨rfl, hb4⟩))
        go_roundw
        case rel =>
          refine ⟨pre ++ [x], sv3, L3, HC3.out.below hb4, HM3.out, by rw [lastNo_snoc], by rw [lastNo_snoc], ?_, HJ.out _ W3 w4 none HJ3.out ⟨hb4.os, hb4.tape, hb4.output, hb4.size, fun k hk _ => hb4.block k hk⟩ (fun r e => by cases e), HB3.out.below hb4 HB3.out.lt⟩
          rw [lastNo_snoc]
          have := HXN.out
          have := HLO.out
          omega
        case measure =>
          have h1 := HXN.out
          have h2 := HXM.out
          rw [HLP.out] at h1
          simp [intOf]
          omega
      · have HX3 := Lib.hid hJx3
        clear hJx3 hy hR
        gi_wp2
        refine bodyPost_ret (results_none rfl _ _ _) rfl ?_
        exact ⟨⟨_, rfl⟩, .inr ⟨_, HX3.out⟩⟩
    · have hk : leN L (lastNo pre) = L.length := by omega
      have HE : Hid (EndC p pre wr) := ⟨_, L, hC, hM, hk⟩
      have HJS := Lib.hid hJs
      rw [hk]
      clear hC hM hBx hJs hkle hlt hk
      gi_wp2
      go_end0
      exact ⟨⟨_, rfl⟩, .inl ⟨_, HE.out, HJS.out⟩⟩
end Go.Proofs.YtmljiegeingpeaaDoor
