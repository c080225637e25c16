/- custodyref14's with, Credit, Debit, Mark, Unmark by contracts (printed by gen_refm14.py). -/
import Derived.Test.YtcgcgekefhhjhaaDoorMoves14
import Derived.Test.YtcgcgekefhhjhaaDoorRef14
namespace Go.Proofs.YtcgcgekefhhjhaaDoor
set_option linter.unusedSimpArgs false
set_option linter.unusedVariables false
open Go.RowKit

theorem stepW_len (n q : Int) (s : Bool × List Mk) (x : Mk) : (stepW n q s x).2.length ≤ s.2.length + 2 := by
  unfold stepW
  split <;> (simp only; split <;> simp)
theorem withTo_len (l : List Mk) (n q : Int) (k : Nat) : (withTo l n q k).2.length ≤ 2 * k := by
  unfold withTo
  have : ∀ (m : List Mk) (s : Bool × List Mk), (m.foldl (stepW n q) s).2.length ≤ s.2.length + 2 * m.length := by
    intro m
    induction m with
    | nil => simp
    | cons x m ih =>
      intro s
      rw [List.foldl_cons]
      have h1 := ih (stepW n q s x)
      have h2 := stepW_len n q s x
      simp only [List.length_cons]
      omega
  have h := this (l.take k) (decide (q = 0), [])
  simp only [List.length_nil, List.length_take] at h
  omega
theorem stepW_ins {n q : Int} {acc : List Mk} {x : Mk} (h : n ≤ x.m) : stepW n q (false, acc) x = (true, if x.m = n then acc ++ [⟨n, q⟩] else acc ++ [⟨n, q⟩] ++ [x]) := by simp [stepW, h]
theorem stepW_no {n q : Int} {b : Bool} {acc : List Mk} {x : Mk} (h : ¬ (b = false ∧ n ≤ x.m)) : stepW n q (b, acc) x = (b, if x.m = n then acc else acc ++ [x]) := by
  unfold stepW
  rw [if_neg h]
/-- Behind an append to the marks of a position that lies in a variable. -/
theorem push_own {w w2 : World} {B g9 : Nat} {a : Int} {v v1 : Value} {acc : List Mk} {y : Mk} (hO : OutP w B g9 a v acc) (h : w2.ownsRow B 37 2 v1 (acc.length + 1) (marksC acc ++ y.cs)) (hg : w.grownBy w2 v.ownBlock) :
    ∃ A c, v1 = .slice A (acc ++ [y]).length c ∧ OutP (w2.setCell ⟨g9, 1, none⟩ (.slice A (acc ++ [y]).length c)) B g9 a (.slice A (acc ++ [y]).length c) (acc ++ [y]) ∧ Blk w2 g9 24 #[.int .i64 a, v] := by
  have hm : OwnM w2 B v1 (acc ++ [y]) := by
    unfold OwnM
    rw [marksC_append, show marksC [y] = y.cs by simp [marksC], show (acc ++ [y]).length = acc.length + 1 by simp]
    exact h
  obtain ⟨A, c, rfl⟩ := own_slice hm
  have hb9 := hO.b.grown hg (fun h => OnwM_ne hO.m hO.b (by decide) h.symm)
  exact ⟨A, c, rfl, ⟨hb9.set_ 1 _, hm.far hb9 1 _, hO.ge⟩, hb9⟩

set_option maxRecDepth 100000 in
set_option maxHeartbeats 4000000 in
theorem with_calls (a : Int) (l : List Mk) (A : Option Addr) (c B : Nat) (a' n q : Int) (w : World) (h : PosOK w B a l A) (hB : B ≤ w.heap.size) (hlen : l.length ≤ 1000000000) :
    Calls Tryd.prog 66 #[.agg #[.int .i64 a, .slice A l.length c], .int .i64 a', .int .i64 n, .int .i64 q] w
      fun e w' => ∃ A' c', e = .returned (.agg #[.int .i64 a', .slice A' (withL l n q).length c']) ∧ OwnM w' w.heap.size (.slice A' (withL l n q).length c') (withL l n q) ∧ Below w.heap.size w w' := by
  obtain ⟨i0, hi0, hz0, hz1, hz2⟩ := info_parts infoMk
  obtain ⟨gp, hgp⟩ : ∃ g, w.heap.size = g := ⟨_, rfl⟩
  obtain ⟨W1, hW1⟩ : ∃ W, w.alloc (.cells #[.int .i64 a, .slice A l.length c] 24) = W := ⟨_, rfl⟩
  obtain ⟨W2, hW2⟩ : ∃ W, W1.alloc (.cells #[.int .i64 0, .slice none 0 0] 24) = W := ⟨_, rfl⟩
  obtain ⟨gr, hgr⟩ : ∃ g, W1.heap.size = g := ⟨_, rfl⟩
  have hb1 : Below w.heap.size w W1 := hW1 ▸ (Below.refl _ _).alloc (Nat.le_refl _) _
  have hb2 : Below w.heap.size w W2 := hW2 ▸ hb1.alloc hb1.size _
  have hp : Blk W2 gp 24 #[.int .i64 a, .slice A l.length c] := by rw [← hW2, ← hW1]; exact (blkNew hgp).alloc _
  have hr : Blk W2 gr 24 #[.int .i64 0, .slice none 0 0] := by rw [← hW2]; exact blkNew hgr
  have hgr2 : gr = gp + 1 := by rw [← hgr, ← hW1]; simp [hgp]
  have hge : w.heap.size ≤ gr := by omega
  obtain ⟨g9, hg9⟩ : ∃ g, W2.heap.size = g := ⟨_, rfl⟩
  obtain ⟨W3, hW3⟩ : ∃ W, W2.alloc (.cells #[.int .i64 0, .slice none 0 0] 24) = W := ⟨_, rfl⟩
  have hr9 : gr < g9 := hg9 ▸ hr.lt
  have hp9 : gp < g9 := hg9 ▸ hp.lt
  have hb3 : Below w.heap.size w W3 := hW3 ▸ hb2.alloc hb2.size _
  have hn0 : Blk W3 g9 24 #[.int .i64 0, .slice none 0 0] := by rw [← hW3]; exact blkNew hg9
  have n0 := hn0.cell 0
  have n1 := hn0.cell 1
  have f0 := hn0.frozen 0
  have f1 := hn0.frozen 1
  have hn9 := (hn0.set_ 0 (.int .i64 a')).set_ 1 (.slice none 0 0)
  obtain ⟨W4, hW4⟩ : ∃ W, (W3.setCell ⟨g9, 0, none⟩ (.int .i64 a')).setCell ⟨g9, 1, none⟩ (.slice none 0 0) = W := ⟨_, rfl⟩
  have hge9 : w.heap.size ≤ g9 := by omega
  have hb4 : Below w.heap.size w W4 := hW4 ▸ (hb3.setCell (p := ⟨g9, 0, none⟩) hge9 _).setCell (p := ⟨g9, 1, none⟩) hge9 _
  have hp4 : Blk W4 gp 24 #[.int .i64 a, .slice A l.length c] := by rw [← hW4, ← hW3]; exact ((hp.alloc _).far (p := ⟨g9, 0, none⟩) (Nat.ne_of_lt hp9) _).far (p := ⟨g9, 1, none⟩) (Nat.ne_of_lt hp9) _
  have hr4 : Blk W4 gr 24 #[.int .i64 0, .slice none 0 0] := by rw [← hW4, ← hW3]; exact ((hr.alloc _).far (p := ⟨g9, 0, none⟩) (Nat.ne_of_lt hr9) _).far (p := ⟨g9, 1, none⟩) (Nat.ne_of_lt hr9) _
  rw [hW4] at hn9
  have HO4 : Hid (OutP W4 w.heap.size g9 a' (.slice none 0 0) []) := ⟨hn9, OwnM.nil _ _, hge9⟩
  have HP4 := Lib.hid hp4
  have HR4 := Lib.hid hr4
  have HB4 := Lib.hid hb4
  have HNP := Lib.hid (Nat.ne_of_lt hp9)
  have HNR := Lib.hid (Nat.ne_of_lt hr9)
  have HGR := Lib.hid hge
  have HG9 := Lib.hid hge9
  have H0 := Lib.hid h
  have HB0 := Lib.hid hB
  have HLA0 := Lib.hid hlen
  have p0 : W4.cell? ⟨gp, 0, none⟩ = some (.int .i64 a) := hp4.cell 0
  have p1 : W4.cell? ⟨gp, 1, none⟩ = some (.slice A l.length c) := hp4.cell 1
  have hqd : (q == 0) = decide (q = 0) := by rw [Bool.eq_iff_iff]; simp
  clear h hB hlen hb1 hb2 hb3 hb4 hp hr hp4 hr4 hn9 hge hge9 hr9 hp9 hgr2 hn0
  go_enter Tryd.func66, Tryd.ntmps66
  go_wp2_with (fail)
  clear p0 p1 hW1 hW2 hW3 hW4 hgp hgr hg9 n0 n1 f0 f1
  go_loopw [10, 11] (fun pu i wr => ∃ k : Nat, k ≤ l.length ∧ i = .int .i64 k ∧ pu = .bool (withTo l n q k).1 ∧ Blk wr gp 24 #[.int .i64 a, .slice A l.length c] ∧ Blk wr gr 24 #[.int .i64 0, .slice none 0 0] ∧ (∃ A9 c9, OutP wr w.heap.size g9 a' (.slice A9 (withTo l n q k).2.length c9) (withTo l n q k).2) ∧ Below w.heap.size w wr) (fun _ i _ => l.length - (intOf i).toNat)
  case atStart => exact ⟨0, Nat.zero_le _, rfl, by rw [withTo_zero, ← hqd], HP4.out, HR4.out, ⟨none, 0, HO4.out⟩, HB4.out⟩
  case round =>
    clear HP4 HR4 HO4 HB4 hqd
    obtain ⟨k, hk, rfl, rfl, hbp, hbr, ⟨A9, c9, hO⟩, hB1⟩ := hrel
    have hwl := withTo_len l n q k
    have hws := fun h => withTo_succ (l := l) (k := k) h n q
    obtain ⟨⟨b, acc⟩, hacc⟩ : ∃ s, withTo l n q k = s := ⟨_, rfl⟩
    rw [hacc] at hO hwl hws ⊢
    simp only at hO hwl hws ⊢
    have HLA : Hid (acc.length ≤ 2000000000) := by have := HLA0.out; show _ ≤ _; omega
    have HACC := Lib.hid hacc
    have HWS := Lib.hid hws
    have p0 : wr.cell? ⟨gp, 0, none⟩ = some (.int .i64 a) := hbp.cell 0
    have p1 : wr.cell? ⟨gp, 1, none⟩ = some (.slice A l.length c) := hbp.cell 1
    have o0 : wr.cell? ⟨g9, 0, none⟩ = some (.int .i64 a') := hO.b.cell 0
    have o1 : wr.cell? ⟨g9, 1, none⟩ = some (.slice A9 acc.length c9) := hO.b.cell 1
    have HBP := Lib.hid hbp
    have HBR := Lib.hid hbr
    have HO := Lib.hid hO
    have HBW := Lib.hid hB1
    clear hbp hbr hO hacc hws hwl hB1
    by_cases hlt : k < l.length
    · have hkl : (k : Int) < l.length := by omega
      obtain ⟨ad, rfl, hadb, e0, e1⟩ := marks_at (H0.out.r.below (HBW.out.mono HB0.out)) hlt
      have hst := HWS.out hlt
      obtain ⟨x, hx⟩ : ∃ x, l[k] = x := ⟨_, rfl⟩
      rw [hx] at e0 e1 hst
      have HST := Lib.hid hst
      obtain ⟨gm, hgm⟩ : ∃ g, wr.heap.size = g := ⟨_, rfl⟩
      obtain ⟨WM, hWM⟩ : ∃ X, wr.alloc (.cells #[.int .i64 x.m, .int .i64 x.q] 37) = X := ⟨_, rfl⟩
      have hbm : Below wr.heap.size wr WM := hWM ▸ (Below.refl _ _).alloc (Nat.le_refl _) _
      have hm : Blk WM gm 37 #[.int .i64 x.m, .int .i64 x.q] := by rw [← hWM]; exact blkNew hgm
      have m0 : WM.cell? ⟨gm, 0, none⟩ = some (.int .i64 x.m) := hm.cell 0
      have m1 : WM.cell? ⟨gm, 1, none⟩ = some (.int .i64 x.q) := hm.cell 1
      have hl9 : l.length ≤ 1000000000 := HLA0.out
      have HM := Lib.hid hm
      have HOM := Lib.hid (HO.out.below hbm)
      have HPM := Lib.hid (HBP.out.below hbm HBP.out.lt)
      have HRM := Lib.hid (HBR.out.below hbm HBR.out.lt)
      have HBM := Lib.hid (HBW.out.trans (hbm.mono HBW.out.size))
      have n1 : WM.cell? ⟨g9, 1, none⟩ = some (.slice A9 acc.length c9) := HOM.out.b.cell 1
      have HNM : Hid (∀ k, (Value.slice A9 acc.length c9).ownBlock = some k → k < gm) := fun k h => hgm ▸ (World.ownsRow.lt HO.out.m k h).2
      clear hst hbm hm hx
      by_cases hin : b = false ∧ n ≤ x.m
      · obtain ⟨hbf, hnx⟩ := hin
        subst hbf
        have hst := HST.out.trans (stepW_ins hnx)
        have HST := Lib.hid hst
        clear hst
        by_cases hxn : x.m = n
        · have hst := HST.out
          rw [if_pos hxn] at hst
          have HST := Lib.hid hst
          clear hst
          subst hxn
          obtain ⟨gy1, hgy1⟩ : ∃ g, WM.heap.size = g := ⟨_, rfl⟩
          obtain ⟨WN1, hWN1⟩ : ∃ X, WM.alloc (.cells #[.int .i64 x.m, .int .i64 q] 37) = X := ⟨_, rfl⟩
          have hbn1 : Below WM.heap.size WM WN1 := hWN1 ▸ (Below.refl _ _).alloc (Nat.le_refl _) _
          have HY1 : Hid (Blk WN1 gy1 37 #[.int .i64 x.m, .int .i64 q]) := (by rw [← hWN1]; exact blkNew hgy1)
          have HON1 := Lib.hid (HOM.out.below hbn1)
          have HPN1 := Lib.hid (HPM.out.below hbn1 HPM.out.lt)
          have HRN1 := Lib.hid (HRM.out.below hbn1 HRM.out.lt)
          have HBN1 := Lib.hid (HBM.out.trans (hbn1.mono HBM.out.size))
          have o11 : WN1.cell? ⟨g9, 1, none⟩ = some (.slice A9 acc.length c9) := HON1.out.b.cell 1
          have HMN1 := Lib.hid (HM.out.below hbn1 HM.out.lt)
          have HMG1 : Hid (gm ≠ g9) := HMN1.out.ne_ HON1.out.b (by decide)
          clear hbn1
          go_wp2_with (first | (at_builtin; refine wpList_append_own_at _ rfl (.tmp 38) (.tmp 42) 22 rfl w.heap.size 37 i0 _ 2 16 Tryd.underlying22 hi0 hz0 hz1 hz2 rfl (by decide) _ acc.length (marksC acc) rfl HON1.out.m ⟨gy1, 0, none⟩ 1 1 (Mk.cs ⟨x.m, q⟩) rfl rfl (blk_cells (cs := Mk.cs ⟨x.m, q⟩) HY1.out) (Mk.one ⟨x.m, q⟩) ?_ ?_ ?_ ?_; (have := HLA.out; unfold maxLen; omega); (have := HLA.out; omega); (exact HBN1.out.size); intro v1 w2 hown2 hg2 _ _; obtain ⟨A1, c1, rfl, hOC1, hb91⟩ := push_own (y := ⟨x.m, q⟩) HON1.out hown2 hg2; obtain ⟨acc1, hacc1⟩ : ∃ z, acc ++ [(⟨x.m, q⟩ : Mk)] = z := ⟨_, rfl⟩; rw [hacc1] at hOC1; rw [hacc1]; have f11 := hb91.frozen 1; have o21 : w2.cell? ⟨g9, 1, none⟩ = some (.slice A9 acc.length c9) := hb91.cell 1; have hpc := (HPN1.out.grown hg2 (fun h => OnwM_ne HON1.out.m HPN1.out (by decide) h.symm)).far (p := ⟨g9, 1, none⟩) HNP.out (.slice A1 acc1.length c1); have hrc := (HRN1.out.grown hg2 (fun h => OnwM_ne HON1.out.m HRN1.out (by decide) h.symm)).far (p := ⟨g9, 1, none⟩) HNR.out (.slice A1 acc1.length c1); have hbc := (HBN1.out.trans (below_of_grown hg2 (fun g hg => (World.ownsRow.lt HON1.out.m _ hg).1) HBN1.out.size)).setCell (p := ⟨g9, 1, none⟩) HG9.out (.slice A1 acc1.length c1); have hmc := (HMN1.out.grown hg2 (fun h => by have := HNM.out _ h.symm; omega)).far (p := ⟨g9, 1, none⟩) HMG1.out (.slice A1 acc1.length c1); obtain ⟨WC1, hWC1⟩ : ∃ X, w2.setCell ⟨g9, 1, none⟩ (.slice A1 acc1.length c1) = X := ⟨_, rfl⟩; rw [hWC1] at hOC1 hpc hrc hbc hmc; have HOC1 := Lib.hid hOC1; have HPC1 := Lib.hid hpc; have HRC1 := Lib.hid hrc; have HBC1 := Lib.hid hbc; have HAC1 := Lib.hid hacc1; have HMC1 := Lib.hid hmc; have m01 : WC1.cell? ⟨gm, 0, none⟩ = some (.int .i64 x.m) := hmc.cell 0; have m11 : WC1.cell? ⟨gm, 1, none⟩ = some (.int .i64 x.q) := hmc.cell 1; have n11 : WC1.cell? ⟨g9, 1, none⟩ = some (.slice A1 acc1.length c1) := HOC1.out.b.cell 1; clear hmc; clear hOC1 hb91 hpc hrc hbc hown2 hg2 hacc1 hWN1 hgy1))
          go_roundw
          case rel => exact ⟨k + 1, by omega, by go_num, by rw [HST.out, HAC1.out], HPC1.out, HRC1.out, ⟨A1, c1, by rw [HST.out, HAC1.out]; exact HOC1.out⟩, HBC1.out⟩
          case measure => simp [intOf]; omega
        · have hst := HST.out
          rw [if_neg hxn] at hst
          have HST := Lib.hid hst
          clear hst
          obtain ⟨gy1, hgy1⟩ : ∃ g, WM.heap.size = g := ⟨_, rfl⟩
          obtain ⟨WN1, hWN1⟩ : ∃ X, WM.alloc (.cells #[.int .i64 n, .int .i64 q] 37) = X := ⟨_, rfl⟩
          have hbn1 : Below WM.heap.size WM WN1 := hWN1 ▸ (Below.refl _ _).alloc (Nat.le_refl _) _
          have HY1 : Hid (Blk WN1 gy1 37 #[.int .i64 n, .int .i64 q]) := (by rw [← hWN1]; exact blkNew hgy1)
          have HON1 := Lib.hid (HOM.out.below hbn1)
          have HPN1 := Lib.hid (HPM.out.below hbn1 HPM.out.lt)
          have HRN1 := Lib.hid (HRM.out.below hbn1 HRM.out.lt)
          have HBN1 := Lib.hid (HBM.out.trans (hbn1.mono HBM.out.size))
          have o11 : WN1.cell? ⟨g9, 1, none⟩ = some (.slice A9 acc.length c9) := HON1.out.b.cell 1
          have HMN1 := Lib.hid (HM.out.below hbn1 HM.out.lt)
          have HMG1 : Hid (gm ≠ g9) := HMN1.out.ne_ HON1.out.b (by decide)
          clear hbn1
          go_wp2_with (first | (at_builtin; refine wpList_append_own_at _ rfl (.tmp 38) (.tmp 42) 22 rfl w.heap.size 37 i0 _ 2 16 Tryd.underlying22 hi0 hz0 hz1 hz2 rfl (by decide) _ acc.length (marksC acc) rfl HON1.out.m ⟨gy1, 0, none⟩ 1 1 (Mk.cs ⟨n, q⟩) rfl rfl (blk_cells (cs := Mk.cs ⟨n, q⟩) HY1.out) (Mk.one ⟨n, q⟩) ?_ ?_ ?_ ?_; (have := HLA.out; unfold maxLen; omega); (have := HLA.out; omega); (exact HBN1.out.size); intro v1 w2 hown2 hg2 _ _; obtain ⟨A1, c1, rfl, hOC1, hb91⟩ := push_own (y := ⟨n, q⟩) HON1.out hown2 hg2; obtain ⟨acc1, hacc1⟩ : ∃ z, acc ++ [(⟨n, q⟩ : Mk)] = z := ⟨_, rfl⟩; rw [hacc1] at hOC1; rw [hacc1]; have f11 := hb91.frozen 1; have o21 : w2.cell? ⟨g9, 1, none⟩ = some (.slice A9 acc.length c9) := hb91.cell 1; have hpc := (HPN1.out.grown hg2 (fun h => OnwM_ne HON1.out.m HPN1.out (by decide) h.symm)).far (p := ⟨g9, 1, none⟩) HNP.out (.slice A1 acc1.length c1); have hrc := (HRN1.out.grown hg2 (fun h => OnwM_ne HON1.out.m HRN1.out (by decide) h.symm)).far (p := ⟨g9, 1, none⟩) HNR.out (.slice A1 acc1.length c1); have hbc := (HBN1.out.trans (below_of_grown hg2 (fun g hg => (World.ownsRow.lt HON1.out.m _ hg).1) HBN1.out.size)).setCell (p := ⟨g9, 1, none⟩) HG9.out (.slice A1 acc1.length c1); have hmc := (HMN1.out.grown hg2 (fun h => by have := HNM.out _ h.symm; omega)).far (p := ⟨g9, 1, none⟩) HMG1.out (.slice A1 acc1.length c1); obtain ⟨WC1, hWC1⟩ : ∃ X, w2.setCell ⟨g9, 1, none⟩ (.slice A1 acc1.length c1) = X := ⟨_, rfl⟩; rw [hWC1] at hOC1 hpc hrc hbc hmc; have HOC1 := Lib.hid hOC1; have HPC1 := Lib.hid hpc; have HRC1 := Lib.hid hrc; have HBC1 := Lib.hid hbc; have HAC1 := Lib.hid hacc1; have HMC1 := Lib.hid hmc; have m01 : WC1.cell? ⟨gm, 0, none⟩ = some (.int .i64 x.m) := hmc.cell 0; have m11 : WC1.cell? ⟨gm, 1, none⟩ = some (.int .i64 x.q) := hmc.cell 1; have n11 : WC1.cell? ⟨g9, 1, none⟩ = some (.slice A1 acc1.length c1) := HOC1.out.b.cell 1; clear hmc; clear hOC1 hb91 hpc hrc hbc hown2 hg2 hacc1 hWN1 hgy1; obtain ⟨gy2, hgy2⟩ : ∃ g, WC1.heap.size = g := ⟨_, rfl⟩; obtain ⟨WN2, hWN2⟩ : ∃ X, WC1.alloc (.cells #[.int .i64 x.m, .int .i64 x.q] 37) = X := ⟨_, rfl⟩; have hbn2 : Below WC1.heap.size WC1 WN2 := hWN2 ▸ (Below.refl _ _).alloc (Nat.le_refl _) _; have HY2 : Hid (Blk WN2 gy2 37 #[.int .i64 x.m, .int .i64 x.q]) := (by rw [← hWN2]; exact blkNew hgy2); have HON2 := Lib.hid (HOC1.out.below hbn2); have HPN2 := Lib.hid (HPC1.out.below hbn2 HPC1.out.lt); have HRN2 := Lib.hid (HRC1.out.below hbn2 HRC1.out.lt); have HBN2 := Lib.hid (HBC1.out.trans (hbn2.mono HBC1.out.size)); have o12 : WN2.cell? ⟨g9, 1, none⟩ = some (.slice A1 acc1.length c1) := HON2.out.b.cell 1; clear hbn2) | (at_builtin; refine wpList_append_own_at _ rfl (.tmp 50) (.tmp 52) 22 rfl w.heap.size 37 i0 _ 2 16 Tryd.underlying22 hi0 hz0 hz1 hz2 rfl (by decide) _ acc1.length (marksC acc1) rfl HON2.out.m ⟨gy2, 0, none⟩ 1 1 (Mk.cs ⟨x.m, x.q⟩) rfl rfl (blk_cells (cs := Mk.cs ⟨x.m, x.q⟩) HY2.out) (Mk.one ⟨x.m, x.q⟩) ?_ ?_ ?_ ?_; (have := HLA.out; have h1 := congrArg List.length HAC1.out; simp at h1; unfold maxLen; omega); (have := HLA.out; have h1 := congrArg List.length HAC1.out; simp at h1; omega); (exact HBN2.out.size); intro v1 w2 hown2 hg2 _ _; obtain ⟨A2, c2, rfl, hOC2, hb92⟩ := push_own (y := ⟨x.m, x.q⟩) HON2.out hown2 hg2; obtain ⟨acc2, hacc2⟩ : ∃ z, acc1 ++ [(⟨x.m, x.q⟩ : Mk)] = z := ⟨_, rfl⟩; rw [hacc2] at hOC2; rw [hacc2]; have f12 := hb92.frozen 1; have o22 : w2.cell? ⟨g9, 1, none⟩ = some (.slice A1 acc1.length c1) := hb92.cell 1; have hpc := (HPN2.out.grown hg2 (fun h => OnwM_ne HON2.out.m HPN2.out (by decide) h.symm)).far (p := ⟨g9, 1, none⟩) HNP.out (.slice A2 acc2.length c2); have hrc := (HRN2.out.grown hg2 (fun h => OnwM_ne HON2.out.m HRN2.out (by decide) h.symm)).far (p := ⟨g9, 1, none⟩) HNR.out (.slice A2 acc2.length c2); have hbc := (HBN2.out.trans (below_of_grown hg2 (fun g hg => (World.ownsRow.lt HON2.out.m _ hg).1) HBN2.out.size)).setCell (p := ⟨g9, 1, none⟩) HG9.out (.slice A2 acc2.length c2); obtain ⟨WC2, hWC2⟩ : ∃ X, w2.setCell ⟨g9, 1, none⟩ (.slice A2 acc2.length c2) = X := ⟨_, rfl⟩; rw [hWC2] at hOC2 hpc hrc hbc; have HOC2 := Lib.hid hOC2; have HPC2 := Lib.hid hpc; have HRC2 := Lib.hid hrc; have HBC2 := Lib.hid hbc; have HAC2 := Lib.hid hacc2; clear hOC2 hb92 hpc hrc hbc hown2 hg2 hacc2 hWN2 hgy2))
          go_roundw
          case rel => exact ⟨k + 1, by omega, by go_num, by rw [HST.out, HAC1.out, HAC2.out], HPC2.out, HRC2.out, ⟨A2, c2, by rw [HST.out, HAC1.out, HAC2.out]; exact HOC2.out⟩, HBC2.out⟩
          case measure => simp [intOf]; omega
      · have hst := HST.out.trans (stepW_no hin)
        have HST := Lib.hid hst
        clear hst
        have hor : b = true ∨ (b = false ∧ ¬ n ≤ x.m) := by
          cases b with
          | true => exact .inl rfl
          | false => exact .inr ⟨rfl, fun h => hin ⟨rfl, h⟩⟩
        clear hin
        by_cases hxn : x.m = n
        · have hst := HST.out
          rw [if_pos hxn] at hst
          have HST := Lib.hid hst
          clear hst
          subst hxn
          rcases hor with rfl | ⟨rfl, hnx⟩
          · skip
            go_wp2_with (fail)
            go_roundw
            case rel => exact ⟨k + 1, by omega, by go_num, by rw [HST.out], HPM.out, HRM.out, ⟨A9, c9, by rw [HST.out]; exact HOM.out⟩, HBM.out⟩
            case measure => simp [intOf]; omega
          · exact absurd (Int.le_refl _) hnx
        · have hst := HST.out
          rw [if_neg hxn] at hst
          have HST := Lib.hid hst
          clear hst
          rcases hor with rfl | ⟨rfl, hnx⟩
          · skip
            obtain ⟨gy3, hgy3⟩ : ∃ g, WM.heap.size = g := ⟨_, rfl⟩
            obtain ⟨WN3, hWN3⟩ : ∃ X, WM.alloc (.cells #[.int .i64 x.m, .int .i64 x.q] 37) = X := ⟨_, rfl⟩
            have hbn3 : Below WM.heap.size WM WN3 := hWN3 ▸ (Below.refl _ _).alloc (Nat.le_refl _) _
            have HY3 : Hid (Blk WN3 gy3 37 #[.int .i64 x.m, .int .i64 x.q]) := (by rw [← hWN3]; exact blkNew hgy3)
            have HON3 := Lib.hid (HOM.out.below hbn3)
            have HPN3 := Lib.hid (HPM.out.below hbn3 HPM.out.lt)
            have HRN3 := Lib.hid (HRM.out.below hbn3 HRM.out.lt)
            have HBN3 := Lib.hid (HBM.out.trans (hbn3.mono HBM.out.size))
            have o13 : WN3.cell? ⟨g9, 1, none⟩ = some (.slice A9 acc.length c9) := HON3.out.b.cell 1
            clear hbn3
            go_wp2_with (first | (at_builtin; refine wpList_append_own_at _ rfl (.tmp 50) (.tmp 52) 22 rfl w.heap.size 37 i0 _ 2 16 Tryd.underlying22 hi0 hz0 hz1 hz2 rfl (by decide) _ acc.length (marksC acc) rfl HON3.out.m ⟨gy3, 0, none⟩ 1 1 (Mk.cs ⟨x.m, x.q⟩) rfl rfl (blk_cells (cs := Mk.cs ⟨x.m, x.q⟩) HY3.out) (Mk.one ⟨x.m, x.q⟩) ?_ ?_ ?_ ?_; (have := HLA.out; unfold maxLen; omega); (have := HLA.out; omega); (exact HBN3.out.size); intro v1 w2 hown2 hg2 _ _; obtain ⟨A3, c3, rfl, hOC3, hb93⟩ := push_own (y := ⟨x.m, x.q⟩) HON3.out hown2 hg2; obtain ⟨acc3, hacc3⟩ : ∃ z, acc ++ [(⟨x.m, x.q⟩ : Mk)] = z := ⟨_, rfl⟩; rw [hacc3] at hOC3; rw [hacc3]; have f13 := hb93.frozen 1; have o23 : w2.cell? ⟨g9, 1, none⟩ = some (.slice A9 acc.length c9) := hb93.cell 1; have hpc := (HPN3.out.grown hg2 (fun h => OnwM_ne HON3.out.m HPN3.out (by decide) h.symm)).far (p := ⟨g9, 1, none⟩) HNP.out (.slice A3 acc3.length c3); have hrc := (HRN3.out.grown hg2 (fun h => OnwM_ne HON3.out.m HRN3.out (by decide) h.symm)).far (p := ⟨g9, 1, none⟩) HNR.out (.slice A3 acc3.length c3); have hbc := (HBN3.out.trans (below_of_grown hg2 (fun g hg => (World.ownsRow.lt HON3.out.m _ hg).1) HBN3.out.size)).setCell (p := ⟨g9, 1, none⟩) HG9.out (.slice A3 acc3.length c3); obtain ⟨WC3, hWC3⟩ : ∃ X, w2.setCell ⟨g9, 1, none⟩ (.slice A3 acc3.length c3) = X := ⟨_, rfl⟩; rw [hWC3] at hOC3 hpc hrc hbc; have HOC3 := Lib.hid hOC3; have HPC3 := Lib.hid hpc; have HRC3 := Lib.hid hrc; have HBC3 := Lib.hid hbc; have HAC3 := Lib.hid hacc3; clear hOC3 hb93 hpc hrc hbc hown2 hg2 hacc3 hWN3 hgy3))
            go_roundw
            case rel => exact ⟨k + 1, by omega, by go_num, by rw [HST.out, HAC3.out], HPC3.out, HRC3.out, ⟨A3, c3, by rw [HST.out, HAC3.out]; exact HOC3.out⟩, HBC3.out⟩
            case measure => simp [intOf]; omega
          · skip
            obtain ⟨gy3, hgy3⟩ : ∃ g, WM.heap.size = g := ⟨_, rfl⟩
            obtain ⟨WN3, hWN3⟩ : ∃ X, WM.alloc (.cells #[.int .i64 x.m, .int .i64 x.q] 37) = X := ⟨_, rfl⟩
            have hbn3 : Below WM.heap.size WM WN3 := hWN3 ▸ (Below.refl _ _).alloc (Nat.le_refl _) _
            have HY3 : Hid (Blk WN3 gy3 37 #[.int .i64 x.m, .int .i64 x.q]) := (by rw [← hWN3]; exact blkNew hgy3)
            have HON3 := Lib.hid (HOM.out.below hbn3)
            have HPN3 := Lib.hid (HPM.out.below hbn3 HPM.out.lt)
            have HRN3 := Lib.hid (HRM.out.below hbn3 HRM.out.lt)
            have HBN3 := Lib.hid (HBM.out.trans (hbn3.mono HBM.out.size))
            have o13 : WN3.cell? ⟨g9, 1, none⟩ = some (.slice A9 acc.length c9) := HON3.out.b.cell 1
            clear hbn3
            go_wp2_with (first | (at_builtin; refine wpList_append_own_at _ rfl (.tmp 50) (.tmp 52) 22 rfl w.heap.size 37 i0 _ 2 16 Tryd.underlying22 hi0 hz0 hz1 hz2 rfl (by decide) _ acc.length (marksC acc) rfl HON3.out.m ⟨gy3, 0, none⟩ 1 1 (Mk.cs ⟨x.m, x.q⟩) rfl rfl (blk_cells (cs := Mk.cs ⟨x.m, x.q⟩) HY3.out) (Mk.one ⟨x.m, x.q⟩) ?_ ?_ ?_ ?_; (have := HLA.out; unfold maxLen; omega); (have := HLA.out; omega); (exact HBN3.out.size); intro v1 w2 hown2 hg2 _ _; obtain ⟨A3, c3, rfl, hOC3, hb93⟩ := push_own (y := ⟨x.m, x.q⟩) HON3.out hown2 hg2; obtain ⟨acc3, hacc3⟩ : ∃ z, acc ++ [(⟨x.m, x.q⟩ : Mk)] = z := ⟨_, rfl⟩; rw [hacc3] at hOC3; rw [hacc3]; have f13 := hb93.frozen 1; have o23 : w2.cell? ⟨g9, 1, none⟩ = some (.slice A9 acc.length c9) := hb93.cell 1; have hpc := (HPN3.out.grown hg2 (fun h => OnwM_ne HON3.out.m HPN3.out (by decide) h.symm)).far (p := ⟨g9, 1, none⟩) HNP.out (.slice A3 acc3.length c3); have hrc := (HRN3.out.grown hg2 (fun h => OnwM_ne HON3.out.m HRN3.out (by decide) h.symm)).far (p := ⟨g9, 1, none⟩) HNR.out (.slice A3 acc3.length c3); have hbc := (HBN3.out.trans (below_of_grown hg2 (fun g hg => (World.ownsRow.lt HON3.out.m _ hg).1) HBN3.out.size)).setCell (p := ⟨g9, 1, none⟩) HG9.out (.slice A3 acc3.length c3); obtain ⟨WC3, hWC3⟩ : ∃ X, w2.setCell ⟨g9, 1, none⟩ (.slice A3 acc3.length c3) = X := ⟨_, rfl⟩; rw [hWC3] at hOC3 hpc hrc hbc; have HOC3 := Lib.hid hOC3; have HPC3 := Lib.hid hpc; have HRC3 := Lib.hid hrc; have HBC3 := Lib.hid hbc; have HAC3 := Lib.hid hacc3; clear hOC3 hb93 hpc hrc hbc hown2 hg2 hacc3 hWN3 hgy3))
            go_roundw
            case rel => exact ⟨k + 1, by omega, by go_num, by rw [HST.out, HAC3.out], HPC3.out, HRC3.out, ⟨A3, c3, by rw [HST.out, HAC3.out]; exact HOC3.out⟩, HBC3.out⟩
            case measure => simp [intOf]; omega
    · obtain rfl : k = l.length := by omega
      have hwL : withL l n q = if b = true then acc else acc ++ [⟨n, q⟩] := by unfold withL; rw [HACC.out]
      have HWL := Lib.hid hwL
      clear hwL hlt
      cases b with
      | true =>
        have hwL := HWL.out
        rw [if_pos rfl] at hwL
        have HWL := Lib.hid hwL
        clear hwL
        have r0 : wr.cell? ⟨gr, 0, none⟩ = some (.int .i64 0) := HBR.out.cell 0
        have r1 : wr.cell? ⟨gr, 1, none⟩ = some (.slice none 0 0) := HBR.out.cell 1
        have y0 := HBR.out.frozen 0
        have y1 := HBR.out.frozen 1
        go_wp2_with (fail)
        have hrr := (HBR.out.set_ 0 (.int .i64 a')).set_ 1 (.slice A9 acc.length c9)
        refine ⟨rfl, _, results_cell1 Tryd.results66 rfl [.int .i64 a', .slice A9 acc.length c9] hrr Tryd.underlying24 rfl Tryd.sizeP, ?_⟩
        rw [HWL.out]
        exact ⟨A9, c9, rfl, (HO.out.m.far HBR.out _ _).far (HBR.out.set_ 0 _) _ _, (HBW.out.setCell (p := ⟨gr, 0, none⟩) HGR.out _).setCell (p := ⟨gr, 1, none⟩) HGR.out _⟩
      | false =>
        have hwL := HWL.out
        rw [if_neg (by decide)] at hwL
        have HWL := Lib.hid hwL
        clear hwL
        obtain ⟨gy4, hgy4⟩ : ∃ g, wr.heap.size = g := ⟨_, rfl⟩
        obtain ⟨WN4, hWN4⟩ : ∃ X, wr.alloc (.cells #[.int .i64 n, .int .i64 q] 37) = X := ⟨_, rfl⟩
        have hbn4 : Below wr.heap.size wr WN4 := hWN4 ▸ (Below.refl _ _).alloc (Nat.le_refl _) _
        have HY4 : Hid (Blk WN4 gy4 37 #[.int .i64 n, .int .i64 q]) := (by rw [← hWN4]; exact blkNew hgy4)
        have HON4 := Lib.hid (HO.out.below hbn4)
        have HPN4 := Lib.hid (HBP.out.below hbn4 HBP.out.lt)
        have HRN4 := Lib.hid (HBR.out.below hbn4 HBR.out.lt)
        have HBN4 := Lib.hid (HBW.out.trans (hbn4.mono HBW.out.size))
        have o14 : WN4.cell? ⟨g9, 1, none⟩ = some (.slice A9 acc.length c9) := HON4.out.b.cell 1
        clear hbn4
        go_wp2_with (first | (at_builtin; refine wpList_append_own_at _ rfl (.tmp 58) (.tmp 62) 22 rfl w.heap.size 37 i0 _ 2 16 Tryd.underlying22 hi0 hz0 hz1 hz2 rfl (by decide) _ acc.length (marksC acc) rfl HON4.out.m ⟨gy4, 0, none⟩ 1 1 (Mk.cs ⟨n, q⟩) rfl rfl (blk_cells (cs := Mk.cs ⟨n, q⟩) HY4.out) (Mk.one ⟨n, q⟩) ?_ ?_ ?_ ?_; (have := HLA.out; unfold maxLen; omega); (have := HLA.out; omega); (exact HBN4.out.size); intro v1 w2 hown2 hg2 _ _; obtain ⟨A4, c4, rfl, hOC4, hb94⟩ := push_own (y := ⟨n, q⟩) HON4.out hown2 hg2; obtain ⟨acc4, hacc4⟩ : ∃ z, acc ++ [(⟨n, q⟩ : Mk)] = z := ⟨_, rfl⟩; rw [hacc4] at hOC4; rw [hacc4]; have f14 := hb94.frozen 1; have o24 : w2.cell? ⟨g9, 1, none⟩ = some (.slice A9 acc.length c9) := hb94.cell 1; have hpc := (HPN4.out.grown hg2 (fun h => OnwM_ne HON4.out.m HPN4.out (by decide) h.symm)).far (p := ⟨g9, 1, none⟩) HNP.out (.slice A4 acc4.length c4); have hrc := (HRN4.out.grown hg2 (fun h => OnwM_ne HON4.out.m HRN4.out (by decide) h.symm)).far (p := ⟨g9, 1, none⟩) HNR.out (.slice A4 acc4.length c4); have hbc := (HBN4.out.trans (below_of_grown hg2 (fun g hg => (World.ownsRow.lt HON4.out.m _ hg).1) HBN4.out.size)).setCell (p := ⟨g9, 1, none⟩) HG9.out (.slice A4 acc4.length c4); obtain ⟨WC4, hWC4⟩ : ∃ X, w2.setCell ⟨g9, 1, none⟩ (.slice A4 acc4.length c4) = X := ⟨_, rfl⟩; rw [hWC4] at hOC4 hpc hrc hbc; have HOC4 := Lib.hid hOC4; have HPC4 := Lib.hid hpc; have HRC4 := Lib.hid hrc; have HBC4 := Lib.hid hbc; have HAC4 := Lib.hid hacc4; clear hOC4 hb94 hpc hrc hbc hown2 hg2 hacc4 hWN4 hgy4; have r0 : WC4.cell? ⟨gr, 0, none⟩ = some (.int .i64 0) := HRC4.out.cell 0; have r1 : WC4.cell? ⟨gr, 1, none⟩ = some (.slice none 0 0) := HRC4.out.cell 1; have y0 := HRC4.out.frozen 0; have y1 := HRC4.out.frozen 1; have o04 : WC4.cell? ⟨g9, 0, none⟩ = some (.int .i64 a') := HOC4.out.b.cell 0; have o15 : WC4.cell? ⟨g9, 1, none⟩ = some (.slice A4 acc4.length c4) := HOC4.out.b.cell 1; have hwl4 := HWL.out; rw [HAC4.out] at hwl4; have HWL := Lib.hid hwl4; clear hwl4))
        have hrr := (HRC4.out.set_ 0 (.int .i64 a')).set_ 1 (.slice A4 acc4.length c4)
        refine ⟨rfl, _, results_cell1 Tryd.results66 rfl [.int .i64 a', .slice A4 acc4.length c4] hrr Tryd.underlying24 rfl Tryd.sizeP, ?_⟩
        rw [HWL.out]
        exact ⟨A4, c4, rfl, (HOC4.out.m.far HRC4.out _ _).far (HRC4.out.set_ 0 _) _ _, (HBC4.out.setCell (p := ⟨gr, 0, none⟩) HGR.out _).setCell (p := ⟨gr, 1, none⟩) HGR.out _⟩
end Go.Proofs.YtcgcgekefhhjhaaDoor
