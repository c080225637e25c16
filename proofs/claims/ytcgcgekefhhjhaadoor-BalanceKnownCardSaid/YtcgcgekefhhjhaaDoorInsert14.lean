/- slices.Insert of one mark into a row of the call's own, slices.Delete of one mark, by contracts. -/
import Derived.Test.YtcgcgekefhhjhaaDoorRowOp
import Derived.Deep.RegionLaw
namespace Go.Proofs.YtcgcgekefhhjhaaDoor
set_option linter.unusedSimpArgs false
set_option linter.unusedVariables false
open Go.RowKit

theorem marksC_len (l : List Mk) : (marksC l).length = l.length * 2 := by
  induction l with
  | nil => rfl
  | cons x l ih => simp [marksC, Mk.cs] at ih ⊢; omega
theorem marksC_append (l m : List Mk) : marksC (l ++ m) = marksC l ++ marksC m := by simp [marksC]
theorem marksC_cons (x : Mk) (l : List Mk) : marksC (x :: l) = x.cs ++ marksC l := by simp [marksC]
theorem marksC_take (l : List Mk) (i : Nat) : marksC (l.take i) = (marksC l).take (i * 2) := by
  induction l generalizing i with
  | nil => simp [marksC]
  | cons x l ih =>
    cases i with
    | zero => simp [marksC]
    | succ i =>
      have e1 : (i + 1) * 2 = x.cs.length + i * 2 := by rw [Mk.len]; omega
      rw [List.take_succ_cons, marksC_cons, marksC_cons, ih, e1, List.take_length_add_append]
theorem marksC_drop (l : List Mk) (i : Nat) : marksC (l.drop i) = (marksC l).drop (i * 2) := by
  induction l generalizing i with
  | nil => simp [marksC]
  | cons x l ih =>
    cases i with
    | zero => simp [marksC]
    | succ i =>
      have e1 : (i + 1) * 2 = x.cs.length + i * 2 := by rw [Mk.len]; omega
      rw [List.drop_succ_cons, marksC_cons, ih, e1, List.drop_length_add_append]
theorem Mk.one (x : Mk) : ∀ u ∈ x.cs, u.oneCell' = true := by
  intro u hu
  simp [Mk.cs] at hu
  rcases hu with rfl | rfl <;> rfl
theorem own_row {w : World} {base : Nat} {e : TypeId} {size n : Nat} {v : Value} {xs : List Value} (h : w.ownsRow base e size v n xs) (h0 : 0 < n) :
    ∃ g cap cur, v = .slice (some ⟨g, 0, none⟩) n cap ∧ base ≤ g ∧ Blk w g e cur ∧ n ≤ cap ∧ cap ≤ maxLen ∧ cur.size = cap * size ∧ cur.toList.take (n * size) = xs := by
  rcases h.2 with h1 | h1
  · omega
  · exact h1
/-- The cells of a row from a place on. -/
theorem row_cells {w : World} {g : Nat} {e : TypeId} {cur : Array Value} {xs : List Value} {n : Nat} (h : Blk w g e cur) (hx : cur.toList.take n = xs) (o : Nat) : ∀ j u, (xs.drop o)[j]? = some u → w.cell? ((⟨g, o, none⟩ : Addr).add j) = some u := by
  intro j u hu
  rw [List.getElem?_drop, ← hx, List.getElem?_take] at hu
  split at hu
  · rw [Addr.add_lit, h.cell]
    simpa using hu
  · cases hu
theorem blk_cells {w : World} {g : Nat} {e : TypeId} {cs : List Value} (h : Blk w g e cs.toArray) : ∀ j u, cs[j]? = some u → w.cell? ((⟨g, 0, none⟩ : Addr).add j) = some u := by
  intro j u hu
  rw [Addr.add_lit, h.cell]
  simpa using hu

/-- What an insertion leaves. -/
def InsTo (w : World) (B : Nat) (v : Value) (l' : List Mk) (e : Ending) (w' : World) : Prop :=
  ∃ v', e = .returned v' ∧ OwnM w' B v' l' ∧ w.grownBy w' v.ownBlock ∧ (v'.ownBlock = v.ownBlock ∨ ∀ k, v'.ownBlock = some k → w.heap.size ≤ k)

set_option maxRecDepth 100000 in
set_option maxHeartbeats 4000000 in
theorem insert_end_calls (l : List Mk) (A : Option Addr) (c B : Nat) (x : Mk) (vb : Nat) (tb : TypeId) (w : World) (h : OwnM w B (.slice A l.length c) l) (hB : B ≤ w.heap.size) (hx : Blk w vb tb #[.int .i64 x.m, .int .i64 x.q]) (hlen : l.length ≤ 1000000000) :
    Calls Tryd.prog 64 #[.slice A l.length c, .int .i64 l.length, .slice (some ⟨vb, 0, none⟩) 1 1] w (InsTo w B (.slice A l.length c) (l ++ [x])) := by
  obtain ⟨i0, hi0, hz0, hz1, hz2⟩ := info_parts infoMk
  have hxc := blk_cells (cs := x.cs) hx
  by_cases hc : c = l.length
  · subst hc
    go_enter Tryd.func64, Tryd.ntmps64
    go_wp2_with (first | (at_builtin; refine wpList_append_own_at _ rfl _ _ 22 rfl B 37 i0 _ 2 16 Tryd.underlying22 hi0 hz0 hz1 hz2 rfl (by decide) _ l.length (marksC l) rfl h ⟨vb, 0, none⟩ 1 1 x.cs rfl rfl hxc (Mk.one x) ?_ ?_ hB ?_; (unfold maxLen; omega); (omega); intro v1 w2 hown2 hg2 _ hat2))
    go_ret
    refine ⟨_, rfl, by simpa [OwnM, marksC_append, marksC] using hown2, hg2, ?_⟩
    rcases hat2 with h2 | h2
    · exact .inl h2
    · exact .inr fun k hk => by have hk2 : v1.ownBlock = some k := hk; rw [h2] at hk2; injection hk2 with hk2; omega
  · skip
    go_enter Tryd.func64, Tryd.ntmps64
    go_wp2_with (first | (at_builtin; refine wpList_append_own_at _ rfl _ _ 22 rfl B 37 i0 _ 2 16 Tryd.underlying22 hi0 hz0 hz1 hz2 rfl (by decide) _ l.length (marksC l) rfl h ⟨vb, 0, none⟩ 1 1 x.cs rfl rfl hxc (Mk.one x) ?_ ?_ hB ?_; (unfold maxLen; omega); (omega); intro v1 w2 hown2 hg2 _ hat2))
    go_ret
    refine ⟨_, rfl, by simpa [OwnM, marksC_append, marksC] using hown2, hg2, ?_⟩
    rcases hat2 with h2 | h2
    · exact .inl h2
    · exact .inr fun k hk => by have hk2 : v1.ownBlock = some k := hk; rw [h2] at hk2; injection hk2 with hk2; omega

theorem shape_blk {w : World} {g : Nat} {t : TypeId} {cs : Array Value} (h : Blk w g t cs) : w.shape? g = some (t, cs.size) := by
  have h' : w.heap[g]? = some (.cells cs t (0, 0)) := h
  simp [World.shape?, h']

set_option maxRecDepth 100000 in
set_option maxHeartbeats 4000000 in
theorem insert_shift_calls (l : List Mk) (g c i B : Nat) (x : Mk) (vb : Nat) (tb : TypeId) (w : World) (h : OwnM w B (.slice (some ⟨g, 0, none⟩) l.length c) l) (hi : i < l.length) (hroom : l.length + 1 ≤ c) (hx : Blk w vb tb #[.int .i64 x.m, .int .i64 x.q]) (hne : vb ≠ g) :
    Calls Tryd.prog 64 #[.slice (some ⟨g, 0, none⟩) l.length c, .int .i64 i, .slice (some ⟨vb, 0, none⟩) 1 1] w (InsTo w B (.slice (some ⟨g, 0, none⟩) l.length c) (l.take i ++ x :: l.drop i)) := by
  obtain ⟨i0, hi0, hz0, hz1, hz2⟩ := info_parts infoMk
  obtain ⟨g', cap, cur, hv, hBg, hg, hnc, hcm, hcs, htk⟩ := own_row h (by omega)
  injection hv with hv1 hv2 hv3
  injection hv1 with hv1
  injection hv1 with hv1 _ _
  subst hv1 hv3
  have hsz : (Tryd.prog.info? 37).map (·.size) = some 2 := by rw [hi0]; simp [hz1]
  have hml := marksC_len l
  have hcm2 : c ≤ 9223372036854775807 := by unfold maxLen at hcm; omega
  have hov : ∀ lb cb, (callFunc 74 #[.slice (some ⟨vb, 0, none⟩) 1 1, .slice (some ⟨g, (i + 1) * 2, none⟩) lb cb]).run Tryd.prog w = .ok (.value (.bool false)) w := fun lb cb => by
    rw [run_callFunc_extern Tryd.func74 (by kernel_rfl) (by kernel_rfl) (by kernel_rfl) (e := Extern.SlicesOverlaps.overlaps #[22, 22] #[4]) (by kernel_rfl),
      Lib.run_overlaps_apart w 22 4 37 Tryd.underlying22 2 (fun w => by simp [sizeOf, typeInfo, hi0, hz1]) ⟨vb, 0, none⟩ ⟨g, (i + 1) * 2, none⟩ 1 1 lb cb hne _ _ _ _ (shape_blk hx) (shape_blk hg) (by omega) (hx.frozen 0) (hx.frozen _)]
    rfl
  have hdl : (marksC (l.drop i)).length = (l.length - i) * 2 := by rw [marksC_len, List.length_drop]
  obtain ⟨cur2, hcur2⟩ : ∃ cur2, layL cur ((i + 1) * 2) (marksC (l.drop i)) = cur2 := ⟨_, rfl⟩
  obtain ⟨cur3, hcur3⟩ : ∃ cur3, layL cur2 (i * 2) x.cs = cur3 := ⟨_, rfl⟩
  have hs2 : cur2.size = cur.size := by rw [← hcur2]; exact layL_size (by rw [hdl]; omega)
  have hcp1 : ∀ (W : World), W.heap = w.heap → ∀ ty dc sc, (Builtin.copy_ #[22, 22] ty #[.slice (some ⟨g, (i + 1) * 2, none⟩) (l.length - i) dc, .slice (some ⟨g, i * 2, none⟩) (l.length + 1 - i) sc]).run Tryd.prog W = .ok (goInt ((l.length - i : Nat) : Int)) (W.setRow g cur2) := fun W hW ty dc sc => by
    have hb : Blk W g 37 cur := by unfold Blk; rw [hW]; exact hg
    have hmin : Nat.min (l.length + 1 - i) (l.length - i) = l.length - i := by simp only [Nat.min_def]; split <;> omega
    have := run_copy_rowN (P := Tryd.prog) W 22 22 ty 37 2 g ((i + 1) * 2) (l.length - i) dc ⟨g, i * 2, none⟩ (l.length + 1 - i) sc cur 37 (marksC (l.drop i)) Tryd.underlying22 hsz hb (by rw [hmin, hdl]) (by rw [marksC_drop]; exact row_cells hb htk (i * 2)) (by rw [hdl]; omega) (marks_one _)
    rw [hmin, hcur2] at this
    exact this
  have hcp2 : ∀ (W : World), W.heap = (w.setRow g cur2).heap → ∀ ty dc, (Builtin.copy_ #[22, 22] ty #[.slice (some ⟨g, i * 2, none⟩) (l.length + 1 - i) dc, .slice (some ⟨vb, 0, none⟩) 1 1]).run Tryd.prog W = .ok (goInt 1) (W.setRow g cur3) := fun W hW ty dc => by
    have hb : Blk W g 37 cur2 := by unfold Blk; rw [hW]; exact blk_setRow hg cur2
    have hbx : Blk W vb tb #[.int .i64 x.m, .int .i64 x.q] := by unfold Blk; rw [hW, setRow_other w g vb cur2 hne]; exact hx
    have hmin : Nat.min 1 (l.length + 1 - i) = 1 := by simp only [Nat.min_def]; split <;> omega
    have := run_copy_rowN (P := Tryd.prog) W 22 22 ty 37 2 g (i * 2) (l.length + 1 - i) dc ⟨vb, 0, none⟩ 1 1 cur2 37 x.cs Tryd.underlying22 hsz hb (by rw [hmin]; rfl) (blk_cells (cs := x.cs) hbx) (by simp [Mk.cs]; omega) x.one
    rw [hmin, hcur3] at this
    exact this
  have hn1 : ¬ ((i : Int) = (l.length : Int)) := by omega
  have hn2 : (i : Int) ≤ (l.length : Int) := by omega
  have hn3 : ¬ ((c : Int) < (l.length : Int) + 1) := by omega
  have hw1 : IntKind.i64.wrap ((i : Int) + 1) = (i : Int) + 1 := by rw [IntKind.wrap_i64]; omega
  have hw2 : IntKind.i64.wrap ((l.length : Int) + 1) = (l.length : Int) + 1 := by rw [IntKind.wrap_i64]; omega
  have hb1 : (0 : Int) ≤ (i : Int) + 1 := by omega
  have hb3 : (i : Int) ≤ (l.length : Int) + 1 := by omega
  have hb4 : (i : Int) + 1 ≤ (l.length : Int) + 1 := by omega
  have htn : ((i : Int) + 1).toNat = i + 1 := by omega
  have hb2 : ¬ (c = i + 1) := by omega
  have hb5 : ¬ (c = i) := by omega
  have HX := Lib.hid hx
  have HG := Lib.hid hg
  have HT := Lib.hid htk
  have HC2 := Lib.hid hcur2
  have HC3 := Lib.hid hcur3
  clear hx hg htk hcur2 hcur3 h hv2
  go_enter Tryd.func64, Tryd.ntmps64
  go_wp2_with (simp only [hov])
  go_region_law (refine step_copyX rfl (.tmp 73) (.tmp 76) 22 22 rfl (.slice (some ⟨g, (i + 1) * 2, none⟩) (l.length - i) (c - (i + 1))) (.slice (some ⟨g, i * 2, none⟩) (l.length + 1 - i) (c - i)) (by simp [Act.eval, Act.put]) (by simp [Act.eval, Act.put]) (hcp1 w.drew rfl _ _ _) ?_)
  have hcpw := fun ty dc => hcp2 (w.drew.setRow g cur2) rfl ty dc
  go_wp2
  go_ret
  have hg3 : Blk ((w.drew.setRow g cur2).setRow g cur3) g 37 cur3 := blk_setRow (blk_setRow (w := w.drew) HG.out cur2) cur3
  have hs3 : cur3.size = cur.size := by rw [← HC3.out, layL_size (by rw [hs2]; simp [Mk.cs]; omega)]; exact hs2
  have hl : (l.take i ++ x :: l.drop i).length = l.length + 1 := by simp; omega
  have ht3 : cur3.toList.take ((l.length + 1) * 2) = marksC (l.take i ++ x :: l.drop i) := by
    have e1 : cur2.toList.take (i * 2) = marksC (l.take i) := by
      rw [← HC2.out, layL_take_le (by rw [hdl]; omega) (by omega), marksC_take, ← HT.out, List.take_take, Nat.min_eq_left (by omega)]
    have e2 : cur2.toList.take ((l.length + 1) * 2) = cur.toList.take ((i + 1) * 2) ++ marksC (l.drop i) := by
      rw [← HC2.out, ← layL_take (by rw [hdl]; omega), hdl]
      congr 1
      omega
    have e3 : (cur2.toList.take ((l.length + 1) * 2)).drop (i * 2 + 2) = marksC (l.drop i) := by
      rw [e2]
      have : (i * 2 + 2) = (cur.toList.take ((i + 1) * 2)).length := by
        have : cur.toList.length = cur.size := rfl
        simp; omega
      rw [this, List.drop_left]
    rw [← HC3.out, layL_seg (by rw [hs2]; simp [Mk.cs]; omega) _ (by simp [Mk.cs]; omega), e1]
    have e4 : i * 2 + x.cs.length = i * 2 + 2 := rfl
    rw [e4, e3, marksC_append, marksC_cons, List.append_assoc]
  have hgr : w.grownBy ((w.drew.setRow g cur2).setRow g cur3) (some g) := grown_comp (b := w.drew.setRow g cur2) ⟨rfl, rfl, rfl, by simp, fun k _ hk => setRow_other w.drew g k _ (fun e => hk (by rw [e]))⟩ (grown_setRow _ g cur3)
  refine ⟨_, rfl, ⟨by rw [marksC_len, hl], .inr ⟨g, c, cur3, by rw [hl]; rfl, hBg, hg3, by rw [hl]; omega, hcm, by rw [hs3, hcs], by rw [hl]; exact ht3⟩⟩, hgr, .inl rfl⟩

set_option maxRecDepth 100000 in
set_option maxHeartbeats 4000000 in
theorem insert_grow_calls (l : List Mk) (g c i B : Nat) (x : Mk) (vb : Nat) (tb : TypeId) (w : World) (h : OwnM w B (.slice (some ⟨g, 0, none⟩) l.length c) l) (hB : B ≤ w.heap.size) (hi : i < l.length) (hroom : c < l.length + 1) (hx : Blk w vb tb #[.int .i64 x.m, .int .i64 x.q]) (hlen : l.length ≤ 1000000000) :
    Calls Tryd.prog 64 #[.slice (some ⟨g, 0, none⟩) l.length c, .int .i64 i, .slice (some ⟨vb, 0, none⟩) 1 1] w (InsTo w B (.slice (some ⟨g, 0, none⟩) l.length c) (l.take i ++ x :: l.drop i)) := by
  obtain ⟨i0, hi0, hz0, hz1, hz2⟩ := info_parts infoMk
  obtain ⟨g', cap, cur, hv, hBg, hg, hnc, hcm, hcs, htk⟩ := own_row h (by omega)
  injection hv with hv1 hv2 hv3
  injection hv1 with hv1
  injection hv1 with hv1 _ _
  subst hv1 hv3
  obtain rfl : c = l.length := by omega
  have hsz : (Tryd.prog.info? 37).map (·.size) = some 2 := by rw [hi0]; simp [hz1]
  have hml := marksC_len l
  have hcm2 : l.length ≤ 9223372036854775807 := by omega
  have hkk : (l.length : Int) + 1 - (i : Int) = ((l.length + 1 - i : Nat) : Int) := by omega
  have hik : i + (l.length + 1 - i) = l.length + 1 := by omega
  have hroom' : l.length < l.length + 1 := by omega
  have hdl : (marksC (l.drop i)).length = (l.length - i) * 2 := by rw [marksC_len, List.length_drop]
  have htl : (marksC (l.take i)).length = i * 2 := by rw [marksC_len, List.length_take]; omega
  have hold : (Builtin.firstCells i0.size i (.slice (some ⟨g, 0, none⟩) i l.length)).run Tryd.prog w.drew = .ok (marksC (l.take i)).toArray w.drew := by
    rw [hz1]
    exact run_firstCells_some w.drew 2 i ⟨g, 0, none⟩ i l.length _ htl (fun j v hj => by
      have := row_cells (w := w) hg htk 0 j v
      rw [List.drop_zero] at this
      refine this ?_
      rw [marksC_take, List.getElem?_take] at hj
      split at hj
      · exact hj
      · cases hj)
  obtain ⟨G, hG⟩ : ∃ G, G = grownCap w (l.length + 1) l.length 37 := ⟨_, rfl⟩
  have hGn : l.length + 1 ≤ G := by rw [hG]; exact grownCap_ge w _ _ _
  have hGm : G ≤ maxLen := by rw [hG]; exact grownCap_le_maxLen w (l.length + 1) l.length 37 (by unfold maxLen; omega)
  have hGm2 : G ≤ 9223372036854775807 := by unfold maxLen at hGm; omega
  obtain ⟨ROW, hROW⟩ : ∃ ROW : Array Value, ROW = (marksC (l.take i)).toArray ++ Builtin.zeroCells (Value.agg #[.int .i64 0, .int .i64 0]).cells (l.length + 1 - i) ++ Builtin.zeroCells (Value.agg #[.int .i64 0, .int .i64 0]).cells (G - (l.length + 1)) := ⟨_, rfl⟩
  have hRs : ROW.size = G * 2 := by
    rw [hROW]
    simp only [Array.size_append, List.size_toArray, size_zeroCells, htl]
    have : (Value.agg #[Value.int .i64 0, .int .i64 0]).cells.size = 2 := rfl
    rw [this]
    omega
  have hR1 : ROW.toList.take (i * 2) = marksC (l.take i) := by
    rw [hROW]
    simp only [Array.toList_append, List.append_assoc]
    rw [← htl, List.take_left]
  have hrz : ∀ ty, (Builtin.append_ #[22, 3] ty #[.slice (some ⟨g, 0, none⟩) i l.length, .int .i64 ((l.length : Int) + 1 - (i : Int))]).run Tryd.prog w = .ok (.slice (some ⟨w.heap.size, 0, none⟩) (l.length + 1) G) (w.drew.alloc (.cells ROW 37)) := fun ty => by
    have h := Lib.run_append_grow_zeros (P := Tryd.prog) w 22 3 ty 37 i0 _ .i64 .i64 Tryd.underlying22 Tryd.underlying3 hi0 hz0 (some ⟨g, 0, none⟩) i l.length _ hold (l.length + 1 - i) (by omega) (by omega) (by omega) (by omega) (by rw [hz2]; omega) (by rw [hz2, hik]; exact growslice_fits hroom' (by omega))
    rw [hik, ← hG, ← hROW] at h
    rw [hkk]
    exact h
  obtain ⟨ROW2, hROW2⟩ : ∃ R, layL ROW (i * 2) x.cs = R := ⟨_, rfl⟩
  obtain ⟨ROW3, hROW3⟩ : ∃ R, layL ROW2 ((i + 1) * 2) (marksC (l.drop i)) = R := ⟨_, rfl⟩
  have hR2s : ROW2.size = G * 2 := by rw [← hROW2, layL_size (by rw [hRs]; simp [Mk.cs]; omega), hRs]
  have hgw := hg.lt
  have hvw := hx.lt
  have hcpA : ∀ (W : World), W.heap = (w.alloc (.cells ROW 37)).heap → ∀ ty dc, (Builtin.copy_ #[22, 22] ty #[.slice (some ⟨w.heap.size, i * 2, none⟩) (l.length + 1 - i) dc, .slice (some ⟨vb, 0, none⟩) 1 1]).run Tryd.prog W = .ok (goInt 1) (W.setRow w.heap.size ROW2) := fun W hW ty dc => by
    have hb : Blk W w.heap.size 37 ROW := by unfold Blk; rw [hW]; exact Blk.new w _ ROW
    have hbx : Blk W vb tb #[.int .i64 x.m, .int .i64 x.q] := by unfold Blk; rw [hW]; exact hx.alloc _
    have hmin : Nat.min 1 (l.length + 1 - i) = 1 := by simp only [Nat.min_def]; split <;> omega
    have := run_copy_rowN (P := Tryd.prog) W 22 22 ty 37 2 w.heap.size (i * 2) (l.length + 1 - i) dc ⟨vb, 0, none⟩ 1 1 ROW 37 x.cs Tryd.underlying22 hsz hb (by rw [hmin]; rfl) (blk_cells (cs := x.cs) hbx) (by rw [hRs]; simp [Mk.cs]; omega) x.one
    rw [hmin, hROW2] at this
    exact this
  have hcpB : ∀ (W : World), W.heap = ((w.alloc (.cells ROW 37)).setRow w.heap.size ROW2).heap → ∀ ty dc sc, (Builtin.copy_ #[22, 22] ty #[.slice (some ⟨w.heap.size, (i + 1) * 2, none⟩) (l.length - i) dc, .slice (some ⟨g, i * 2, none⟩) (l.length - i) sc]).run Tryd.prog W = .ok (goInt ((l.length - i : Nat) : Int)) (W.setRow w.heap.size ROW3) := fun W hW ty dc sc => by
    have hb : Blk W w.heap.size 37 ROW2 := by unfold Blk; rw [hW]; exact blk_setRow (Blk.new w _ ROW) ROW2
    have hbg : Blk W g 37 cur := by unfold Blk; rw [hW, setRow_other _ _ _ _ (by omega)]; exact hg.alloc _
    have hmin : Nat.min (l.length - i) (l.length - i) = l.length - i := by simp only [Nat.min_def]; split <;> omega
    have := run_copy_rowN (P := Tryd.prog) W 22 22 ty 37 2 w.heap.size ((i + 1) * 2) (l.length - i) dc ⟨g, i * 2, none⟩ (l.length - i) sc ROW2 37 (marksC (l.drop i)) Tryd.underlying22 hsz hb (by rw [hmin, hdl]) (by rw [marksC_drop]; exact row_cells hbg htk (i * 2)) (by rw [hdl, hR2s]; omega) (marks_one _)
    rw [hmin, hROW3] at this
    exact this
  have hn1 : ¬ ((i : Int) = (l.length : Int)) := by omega
  have hn2 : (i : Int) ≤ (l.length : Int) := by omega
  have hn3 : ((l.length : Int) < (l.length : Int) + 1) := by omega
  have hw1 : IntKind.i64.wrap ((i : Int) + 1) = (i : Int) + 1 := by rw [IntKind.wrap_i64]; omega
  have hw2 : IntKind.i64.wrap ((l.length : Int) + 1) = (l.length : Int) + 1 := by rw [IntKind.wrap_i64]; omega
  have hw3 : IntKind.i64.wrap ((l.length : Int) + 1 - (i : Int)) = (l.length : Int) + 1 - (i : Int) := by rw [IntKind.wrap_i64]; omega
  have hb1 : (0 : Int) ≤ (i : Int) + 1 := by omega
  have hb3 : (i : Int) ≤ (l.length : Int) + 1 := by omega
  have hb4 : (i : Int) + 1 ≤ (l.length : Int) + 1 := by omega
  have htn : ((i : Int) + 1).toNat = i + 1 := by omega
  have hb2 : ¬ (G = i + 1) := by omega
  have hb5 : ¬ (G = i) := by omega
  have hb6 : ¬ (l.length = i) := by omega
  have hb7 : (i : Int) ≤ (G : Int) := by omega
  have HX := Lib.hid hx
  have HG := Lib.hid hg
  have HT := Lib.hid htk
  have HC2 := Lib.hid hROW2
  have HC3 := Lib.hid hROW3
  have HR1 := Lib.hid hR1
  clear hx hg htk hROW2 hROW3 h hv2 hROW hold hG hR1 hkk hik
  have hA1 := fun ty dc => hcpA ((w.alloc (.cells ROW 37)).drew) rfl ty dc
  go_enter Tryd.func64, Tryd.ntmps64
  go_wp2_with (at_builtin; refine Lib.wpList_append_run _ rfl _ _ _ _ rfl _ _ rfl rfl _ _ (hrz _) ?_)
  go_region_law (refine step_copyX rfl (.tmp 50) (.tmp 53) 22 22 rfl (.slice (some ⟨w.heap.size, (i + 1) * 2, none⟩) (l.length - i) (G - (i + 1))) (.slice (some ⟨g, i * 2, none⟩) (l.length - i) (l.length - i)) (by simp [Act.eval, Act.put]) (by simp [Act.eval, Act.put]) (hcpB ((w.alloc (.cells ROW 37)).drew.setRow w.heap.size ROW2).drew rfl _ _ _) ?_)
  go_wp2
  go_ret
  have hg3 : Blk ((((w.alloc (.cells ROW 37)).drew.setRow w.heap.size ROW2).drew).setRow w.heap.size ROW3) w.heap.size 37 ROW3 := blk_setRow (blk_setRow (w := (w.alloc (.cells ROW 37)).drew) (Blk.new w _ ROW) ROW2).drew ROW3
  have hs3 : ROW3.size = G * 2 := by rw [← HC3.out, layL_size (by rw [hR2s, hdl]; omega)]; exact hR2s
  have hl : (l.take i ++ x :: l.drop i).length = l.length + 1 := by simp; omega
  have ht3 : ROW3.toList.take ((l.length + 1) * 2) = marksC (l.take i ++ x :: l.drop i) := by
    have e1 : ROW2.toList.take ((i + 1) * 2) = marksC (l.take i) ++ x.cs := by
      rw [← HR1.out, ← HC2.out, ← layL_take (by rw [hRs]; simp [Mk.cs]; omega)]
      congr 1
      simp [Mk.cs]; omega
    have e2 : (i + 1) * 2 + (marksC (l.drop i)).length = (l.length + 1) * 2 := by rw [hdl]; omega
    rw [← HC3.out, ← e2, layL_take (by rw [hdl, hR2s]; omega), e1, marksC_append, marksC_cons, List.append_assoc]
  have hgr : w.grownBy ((((w.alloc (.cells ROW 37)).drew.setRow w.heap.size ROW2).drew).setRow w.heap.size ROW3) none := by
    refine ⟨rfl, rfl, rfl, by simp, fun k hk _ => ?_⟩
    rw [setRow_other _ _ _ _ (by omega)]
    show (World.setRow _ w.heap.size ROW2).heap[k]? = _
    rw [setRow_other _ _ _ _ (by omega)]
    exact Below.heap_alloc w _ k hk
  refine ⟨_, rfl, ⟨by rw [marksC_len, hl], .inr ⟨w.heap.size, G, ROW3, by rw [hl]; rfl, hB, hg3, by rw [hl]; omega, hGm, hs3, by rw [hl]; exact ht3⟩⟩, grown_none hgr _, .inr fun k hk => ?_⟩
  have hk2 : some w.heap.size = some k := hk
  injection hk2 with hk2
  omega

theorem insert_calls (l : List Mk) (A : Option Addr) (c i B : Nat) (x : Mk) (vb : Nat) (tb : TypeId) (w : World) (h : OwnM w B (.slice A l.length c) l) (hB : B ≤ w.heap.size) (hi : i ≤ l.length) (hx : Blk w vb tb #[.int .i64 x.m, .int .i64 x.q]) (hne : (Value.slice A l.length c).ownBlock ≠ some vb) (hlen : l.length ≤ 1000000000) :
    Calls Tryd.prog 64 #[.slice A l.length c, .int .i64 i, .slice (some ⟨vb, 0, none⟩) 1 1] w (InsTo w B (.slice A l.length c) (l.take i ++ x :: l.drop i)) := by
  rcases Nat.lt_or_ge i l.length with hlt | hge
  · obtain ⟨g, cap, cur, hv, hr⟩ := own_row h (by omega)
    injection hv with hv1 hv2 hv3
    subst hv1 hv3
    by_cases hroom : l.length + 1 ≤ c
    · exact insert_shift_calls l g c i B x vb tb w h hlt hroom hx (fun e => hne (by rw [e]; rfl))
    · exact insert_grow_calls l g c i B x vb tb w h hB hlt (by omega) hx hlen
  · obtain rfl : i = l.length := by omega
    rw [List.take_length, List.drop_length]
    exact insert_end_calls l A c B x vb tb w h hB hx hlen

set_option maxRecDepth 100000 in
set_option maxHeartbeats 4000000 in
theorem delete_calls (l : List Mk) (A : Option Addr) (c i B : Nat) (w : World) (h : OwnM w B (.slice A l.length c) l) (hi : i < l.length) (hlen : l.length ≤ 1000000000) :
    Calls Tryd.prog 65 #[.slice A l.length c, .int .i64 i, .int .i64 (i + 1)] w (InsTo w B (.slice A l.length c) (l.take i ++ l.drop (i + 1))) := by
  obtain ⟨i0, hi0, hz0, hz1, hz2⟩ := info_parts infoMk
  obtain ⟨g, cap, cur, hv, hBg, hg, hnc, hcm, hcs, htk⟩ := own_row h (by omega)
  injection hv with hv1 hv2 hv3
  subst hv1 hv3
  have hml := marksC_len l
  have hcm2 : c ≤ 9223372036854775807 := by unfold maxLen at hcm; omega
  have hdl : (marksC (l.drop (i + 1))).length = (l.length - (i + 1)) * 2 := by rw [marksC_len, List.length_drop]
  obtain ⟨A1, hA1, hsrc⟩ : ∃ A1 : Addr, (if c = i + 1 then (some ⟨g, 0, none⟩ : Option Addr) else some ⟨g, (i + 1) * 2, none⟩) = some A1 ∧ ∀ j u, (marksC (l.drop (i + 1)))[j]? = some u → w.drew.cell? (A1.add j) = some u := by
    by_cases hc : c = i + 1
    · refine ⟨⟨g, 0, none⟩, by rw [if_pos hc], fun j u hu => ?_⟩
      have h0 : (marksC (l.drop (i + 1))).length = 0 := by rw [hdl]; omega
      rw [List.length_eq_zero_iff.1 h0] at hu
      simp at hu
    · refine ⟨⟨g, (i + 1) * 2, none⟩, by rw [if_neg hc], fun j u hu => ?_⟩
      rw [marksC_drop] at hu
      exact row_cells (w := w.drew) hg htk ((i + 1) * 2) j u hu
  have HSRC := Lib.hid hsrc
  obtain ⟨cur2, hcur2⟩ : ∃ cur2, layL cur (0 + i * 2) (marksC (l.drop (i + 1))) = cur2 := ⟨_, rfl⟩
  obtain ⟨cur3, hcur3⟩ : ∃ cur3, layL cur2 ((l.length - 1) * 2) [.int .i64 0, .int .i64 0] = cur3 := ⟨_, rfl⟩
  have hs2 : cur2.size = cur.size := by rw [← hcur2]; exact layL_size (by rw [hdl]; omega)
  obtain ⟨W1, hW1⟩ : ∃ W, w.drew.setCells g (0 + i * 2) (marksC (l.drop (i + 1))) = W := ⟨_, rfl⟩
  have hg1 : Blk W1 g 37 cur2 := by
    rw [← hW1, ← hcur2]
    exact blk_setCellsL _ _ w.drew cur hg (by rw [hdl]; omega)
  have hgr1 : w.grownBy W1 (some g) := by
    rw [← hW1]
    exact grown_comp (b := w.drew) ⟨rfl, rfl, rfl, Nat.le_refl _, fun _ _ _ => rfl⟩ (grown_setCellsL _ _ _)
  have hspare : ∀ j, j < (marksC (l.drop (i + 1))).length → (w.drew.cell? ⟨g, 0 + i * 2 + j, none⟩).isSome = true ∧ w.drew.frozen? ⟨g, 0 + i * 2 + j, none⟩ = false := fun j hj => by
    refine ⟨?_, hg.drew.frozen _⟩
    rw [hg.drew.cell]
    rw [hdl] at hj
    rw [Array.getElem?_eq_getElem (by omega)]
    rfl
  have HSP := Lib.hid hspare
  have hcl : ∀ ty cc, (Builtin.clear_ #[22] ty #[.slice (some ⟨g, (l.length - 1) * 2, none⟩) 1 cc]).run Tryd.prog W1 = .ok (.tuple #[]) (W1.setRow g cur3) := fun ty cc => by
    have := run_clear_rowN (P := Tryd.prog) W1 22 37 ty _ Tryd.underlying22 (fun w => by simp [zeroValue, typeInfo, hi0, hz0]; rfl) g ((l.length - 1) * 2) 1 cc cur2 37 [.int .i64 0, .int .i64 0] (by decide) (by kernel_rfl) (by intro v hv; simp at hv; rcases hv with rfl | rfl <;> rfl) hg1 (by rw [hs2]; simp; omega)
    rw [hcur3] at this
    exact this
  have hn1 : ¬ ((i : Int) = (i : Int) + 1) := by omega
  have hn2 : (i : Int) + 1 ≤ (l.length : Int) := by omega
  have hn3 : (i : Int) ≤ (l.length : Int) := by omega
  have hn4 : (i : Int) ≤ (i : Int) + 1 := by omega
  have hn5 : (0 : Int) ≤ (i : Int) + 1 := by omega
  have htn : ((i : Int) + 1).toNat = i + 1 := by omega
  have HG := Lib.hid hg1
  have HT := Lib.hid htk
  have HC2 := Lib.hid hcur2
  have HC3 := Lib.hid hcur3
  clear hg htk hcur2 hcur3 h hv2 hsrc hspare hg1
  have hn6 : (i : Int) ≤ (c : Int) := by omega
  have hn7 : (l.length : Int) ≤ (c : Int) := by omega
  have hk : i + (l.length - (i + 1)) = l.length - 1 := by omega
  have hk1 : ((l.length - 1 : Nat) : Int) ≤ (l.length : Int) := by omega
  have hk2 : l.length - (l.length - 1) = 1 := by omega
  have hk3 : ¬ (c = l.length - 1) := by omega
  go_enter Tryd.func65, Tryd.ntmps65
  go_wp2_with (fail)
  go_region_law (refine step_append_room rfl (.tmp 22) (.tmp 25) 22 rfl 37 i0 2 Tryd.underlying22 hi0 hz1 g 0 i c (by simp [Act.eval, Act.put]) A1 (l.length - (i + 1)) (c - (i + 1)) (marksC (l.drop (i + 1))) (by simp [Act.eval, Act.put, hA1]) hdl HSRC.out (marks_one _) (by omega) HSP.out ?_; rw [hW1, hk])
  go_wp2
  go_ret
  have hs3 : cur3.size = cur.size := by rw [← HC3.out, layL_size (by rw [hs2]; simp; omega)]; exact hs2
  have hl : (l.take i ++ l.drop (i + 1)).length = l.length - 1 := by simp; omega
  have ht3 : cur3.toList.take ((l.length - 1) * 2) = marksC (l.take i ++ l.drop (i + 1)) := by
    have e1 : cur.toList.take (0 + i * 2) = marksC (l.take i) := by
      rw [marksC_take, ← HT.out, List.take_take, Nat.min_eq_left (by omega), Nat.zero_add]
    have e2 : 0 + i * 2 + (marksC (l.drop (i + 1))).length = (l.length - 1) * 2 := by rw [hdl]; omega
    rw [← HC3.out, layL_take_le (by rw [hs2]; simp; omega) (Nat.le_refl _), ← HC2.out, ← e2, layL_take (by rw [hdl]; omega), e1, marksC_append]
  refine ⟨_, rfl, ⟨by rw [marksC_len, hl], .inr ⟨g, c, cur3, by rw [hl]; rfl, hBg, blk_setRow HG.out cur3, by rw [hl]; omega, hcm, by rw [hs3, hcs], by rw [hl]; exact ht3⟩⟩, grown_comp hgr1 (grown_setRow _ g cur3), .inl rfl⟩
end Go.Proofs.YtcgcgekefhhjhaaDoor
