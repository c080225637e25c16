/- custodyref10's Next and Done by contracts. -/
import Derived.Test.YtmljiegeingpeaaDoorAllNow
import Derived.BigQuiet
import Derived.Deep.MidRow
namespace Go.Proofs.YtmljiegeingpeaaDoor
set_option linter.unusedSimpArgs false
set_option linter.unusedVariables false
open Go.RowKit

theorem setCell_sameV {w : World} {g i : Nat} {t : TypeId} {cs : Array Value} {v : Value} (h : Blk w g t cs) (hi : cs[i]? = some v) : w.setCell ⟨g, i, none⟩ v = w := by
  have hcs : cs.setIfInBounds i v = cs := by
    apply Array.ext_getElem?
    intro j
    rw [Array.getElem?_setIfInBounds]
    split
    · rename_i hij
      subst hij
      have hlt := (Array.getElem?_eq_some_iff.1 hi).1
      rw [if_pos hlt, hi]
    · rfl
  have hm : (w.setCell ⟨g, i, none⟩ v).heap = w.heap := by
    apply Array.ext_getElem?
    intro j
    by_cases hj : j = g
    · subst hj
      have h1 : (w.setCell ⟨j, i, none⟩ v).heap[j]? = some (.cells (cs.setIfInBounds i v) t (0, 0)) := h.set_ i v
      have h2 : w.heap[j]? = some (.cells cs t (0, 0)) := h
      rw [h1, h2, hcs]
    · exact Below.heap_setCell w ⟨g, i, none⟩ v j hj
  have : w.setCell ⟨g, i, none⟩ v = { w with heap := (w.setCell ⟨g, i, none⟩ v).heap } := rfl
  rw [this, hm]
theorem results_cell_tmpV {P : Program} {fn : Func} {t u : Tmp} {ty : TypeId} (h : fn.results = #[.cell t ty, .tmp u]) {tmps : Array Value} {w : World} {g : Nat} (ht : tmps.getD t undef = .pointer (some ⟨g, 0, none⟩)) {tb : TypeId} (cs : List Value) (hb : Blk w g tb cs.toArray)
    {d : TypeDesc} (hu : P.underlying ty = some d) (hd : d.isRow = true) (hi : (P.info? ty).map (·.size) = some cs.length) : (results fn tmps).run P w = .ok (.tuple #[.agg cs.toArray, tmps.getD u undef]) w := by
  have l1 := run_loadVar_mid (P := P) w g 0 ty cs d (fun j v hv => by rw [Nat.zero_add, hb.cell j]; simpa using hv) hu hd hi
  simp only [Array.getD_eq_getD_getElem?] at ht
  simp [results, h, ht, asAddr, l1]
theorem Tryd.sizeV : (Tryd.prog.info? 72).map (·.size) = some 2 := by kernel_rfl

/-- The next version behind a number, and whether there is one. -/
def nextV (L : List VerS) (n : Int) : VerS := (L[leN L n]?).getD ⟨0, ⟨#[]⟩⟩

set_option maxRecDepth 100000 in
set_option maxHeartbeats 4000000 in
theorem next_calls (l : List VerS) (hu : UpV l) (A : Option Addr) (c B : Nat) (n : Int) (w : World) (hr : Reads w B 2 A l.length (versC l)) (hB : B ≤ w.heap.size) (hlen : l.length ≤ 9382499223000) :
    Calls Tryd.prog 66 #[.slice A l.length c, .int .i64 n] w fun e w' => e = .returned (.tuple #[.agg #[.int .i64 (nextV l n).n, .string (nextV l n).v], .bool (decide (leN l n < l.length))]) ∧ Below w.heap.size w w' := by
  have hle := leN_le l n
  obtain ⟨gv, hgv⟩ : ∃ g, w.heap.size = g := ⟨_, rfl⟩
  obtain ⟨W1, hW1⟩ : ∃ X, w.alloc (.cells #[.int .i64 0, .string ⟨#[]⟩] 72) = X := ⟨_, rfl⟩
  have hb1 : Below w.heap.size w W1 := hW1 ▸ (Below.refl _ _).alloc (Nat.le_refl _) _
  have hv : Blk W1 gv 72 #[.int .i64 0, .string ⟨#[]⟩] := by rw [← hW1]; exact hgv ▸ Blk.new _ _ _
  have HB1 := Lib.hid hb1
  have HV := Lib.hid hv
  have HR := Lib.hid (hr.below (hb1.mono hB))
  have HGE : Hid (w.heap.size ≤ gv) := Nat.le_of_eq hgv
  have hBW : B ≤ W1.heap.size := Nat.le_trans hB hb1.size
  have HBW := Lib.hid hBW
  clear hr hb1 hv hBW
  go_enter Tryd.func66, Tryd.ntmps66
  go_wp2_with (fail)
  clear hW1
  go_loopw [6, 7] (fun b i wr => ∃ k : Nat, k ≤ l.length ∧ i = .int .i64 k ∧ b = .int .i64 (if leN l n < k then (leN l n : Int) else -1) ∧ Below W1.heap.size W1 wr) (fun _ i _ => l.length - (intOf i).toNat)
  case atStart => exact ⟨0, Nat.zero_le _, rfl, by simp, Below.refl _ _⟩
  case round =>
    obtain ⟨k, hk, rfl, rfl, hbr⟩ := hrel
    have HBR := Lib.hid hbr
    have hrr := HR.out.below (hbr.mono HBW.out)
    by_cases hlt : k < l.length
    · have hkl : (k : Int) < l.length := by omega
      obtain ⟨ad, rfl, hadb, e0, e1⟩ := vers_at hrr hlt
      have hiff := leN_lt hu (n := n) hlt
      by_cases hkn : k < leN l n
      · have hxn : l[k].n ≤ n := hiff.1 hkn
        rw [if_neg (by omega)]
        have hnk : ¬ leN l n < k + 1 := by omega
        have HNK := Lib.hid hnk
        generalize l[k].n = y at hxn e0
        have hd1 : decide (n < y) = false := by simp; omega
        clear hiff e1 hkn hle hrr hbr hnk
        go_wp2_with (fail)
        go_quiet (fail)
        go_wp2_with (fail)
        go_roundw
        case rel => exact ⟨k + 1, by omega, by go_num, by rw [if_neg HNK.out], below_drewN HBR.out _⟩
        case measure => simp [intOf]; omega
      · have hxn : n < l[k].n := by
          have := fun h => hkn (hiff.2 h)
          omega
        by_cases hke : k = leN l n
        · rw [if_neg (by omega)]
          have hnk : leN l n < k + 1 := by omega
          have HNK := Lib.hid hnk
          have HKE := Lib.hid hke
          generalize l[k].n = y at hxn e0
          have hd1 : decide (n < y) = true := by simpa using hxn
          clear hiff e1 hkn hle hrr hbr hnk hke
          go_wp2_with (fail)
          go_quiet (fail)
          go_wp2_with (fail)
          go_roundw
          case rel => exact ⟨k + 1, by omega, by go_num, by rw [if_pos HNK.out, ← HKE.out], below_drewN HBR.out _⟩
          case measure => simp [intOf]; omega
        · have hlk : leN l n < k := by omega
          rw [if_pos hlk]
          obtain ⟨m, hm⟩ : ∃ m, leN l n = m := ⟨_, rfl⟩
          rw [hm] at hlk ⊢
          obtain ⟨ad2, had2, hz1, f0, hz2⟩ := vers_at hrr (show m < l.length by omega)
          cases had2
          have hup := hu.lt (i := m) (j := k) hlk hlt
          generalize l[m].n = z at hup f0
          generalize l[k].n = y at hxn e0 hup
          have HLK := Lib.hid hlk
          have HM := Lib.hid hm
          have hm0 : (0 : Int) ≤ m := by omega
          have hml : (m : Int) < l.length := by omega
          have hd1 : decide (n < y) = true := by simpa using hxn
          have hd2 : decide (y < z) = false := by simp; omega
          have hd3 : decide ((m : Int) < 0) = false := by simp
          clear hz1 hz2 hiff e1 hkn hle hrr hbr hlk hm hke
          go_wp2_with (fail)
          go_quiet (fail)
          go_wp2_with (fail)
          go_roundw
          case rel => exact ⟨k + 1, by omega, by go_num, by rw [if_pos (by have := HLK.out; omega)], below_drewN HBR.out _⟩
          case measure => simp [intOf]; omega
    · obtain rfl : k = l.length := by omega
      have HVR := Lib.hid (HV.out.below hbr HV.out.lt)
      have HBB := Lib.hid (HB1.out.trans (hbr.mono HB1.out.size))
      have v0 : wr.cell? ⟨gv, 0, none⟩ = some (.int .i64 0) := HVR.out.cell 0
      have v1 : wr.cell? ⟨gv, 1, none⟩ = some (.string ⟨#[]⟩) := HVR.out.cell 1
      have z0 := HVR.out.frozen 0
      have z1 := HVR.out.frozen 1
      by_cases hm : leN l n < l.length
      · rw [if_pos hm]
        obtain ⟨m, hm2⟩ : ∃ m, leN l n = m := ⟨_, rfl⟩
        have hnv : nextV l n = l[leN l n] := by unfold nextV; rw [List.getElem?_eq_getElem hm]; rfl
        have hd : decide (leN l n < l.length) = true := by simpa using hm
        have hml : m < l.length := hm2 ▸ hm
        have hle2 : l[leN l n] = l[m] := by congr 1
        rw [hle2] at hnv
        rw [hm2]
        obtain ⟨ad, rfl, hadb, e0, e1⟩ := vers_at hrr hml
        generalize l[m] = x at e0 e1 hnv
        have HNV := Lib.hid hnv
        have HDD := Lib.hid hd
        have hm0 : (0 : Int) ≤ m := by omega
        have hmli : (m : Int) < l.length := by omega
        clear hrr hbr hnv hd hm hm2 hle2 hle
        go_wp2_with (fail)
        have hq := (HVR.out.set_ 0 (.int .i64 x.n)).set_ 1 (.string x.v)
        exact ⟨rfl, _, results_cell_tmpV Tryd.results66 rfl [.int .i64 x.n, .string x.v] hq Tryd.underlying72 rfl Tryd.sizeV, by rw [HNV.out, HDD.out]; rfl, by first | exact (HBB.out.setCell (p := ⟨gv, 0, none⟩) HGE.out _).setCell (p := ⟨gv, 1, none⟩) HGE.out _ | exact hgv ▸ (HBB.out.setCell (p := ⟨gv, 0, none⟩) HGE.out _).setCell (p := ⟨gv, 1, none⟩) HGE.out _⟩
      · rw [if_neg hm]
        have hnv : nextV l n = ⟨0, ⟨#[]⟩⟩ := by unfold nextV; rw [List.getElem?_eq_none (by omega)]; rfl
        have hd : decide (leN l n < l.length) = false := by simpa using hm
        have HNV := Lib.hid hnv
        have HDD := Lib.hid hd
        have s0 := setCell_sameV (v := .int .i64 0) (i := 0) HVR.out rfl
        have s1 := setCell_sameV (v := .string ⟨#[]⟩) (i := 1) HVR.out rfl
        clear hrr hbr hnv hd hm hle
        go_wp2_with (fail)
        exact ⟨rfl, _, results_cell_tmpV Tryd.results66 rfl [.int .i64 0, .string ⟨#[]⟩] HVR.out Tryd.underlying72 rfl Tryd.sizeV, by rw [HNV.out, HDD.out]; rfl, by first | exact HBB.out | exact hgv ▸ HBB.out⟩
end Go.Proofs.YtmljiegeingpeaaDoor
