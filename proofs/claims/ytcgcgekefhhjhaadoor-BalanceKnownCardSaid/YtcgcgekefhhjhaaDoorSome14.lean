/- custodyref0.CopyMarks and custodylaw14's some by contracts (printed by gen_some14.py). -/
import Derived.Test.YtcgcgekefhhjhaaDoorLaws14c
namespace Go.Proofs.YtcgcgekefhhjhaaDoor
set_option linter.unusedSimpArgs false
set_option linter.unusedVariables false
open Go.RowKit

set_option maxRecDepth 100000 in
set_option maxHeartbeats 4000000 in
theorem copyMarks_calls (l : List Mk) (A : Option Addr) (c B : Nat) (w : World) (hr : Reads w B 2 A l.length (marksC l)) (hB : B ≤ w.heap.size) (hlen : l.length * 16 ≤ 140737488351232) :
    Calls Tryd.prog 67 #[.slice A l.length c] w (fun e w' => ∃ v, e = .returned v ∧ OwnM w' w.heap.size v l ∧ Below w.heap.size w w') := by
  obtain ⟨i0, hi0, hz0, hz1, hz2⟩ := info_parts infoMarks
  go_enter Tryd.func67, Tryd.ntmps67
  go_wp2_with (fail)
  go_loopw [3, 4] (fun v i wr => ∃ k : Nat, k ≤ l.length ∧ i = .int .i64 k ∧ wr.ownsRow w.heap.size 37 2 v k (marksC (l.take k)) ∧ Below w.heap.size w wr) (fun _ i _ => l.length - (intOf i).toNat)
  case atStart => exact ⟨0, Nat.zero_le _, rfl, World.ownsRow_nil _ _ _ _, Below.refl _ _⟩
  case round =>
    obtain ⟨k, hk, rfl, hown, hbel⟩ := hrel
    by_cases hlt : k < l.length
    · obtain ⟨ad, rfl, hadb, e0, e1⟩ := marks_at (hr.below (hbel.mono hB)) hlt
      have htk : l.take (k + 1) = l.take k ++ [l[k]] := by rw [List.take_succ_eq_append_getElem hlt]
      have HTK := Lib.hid htk
      clear htk
      generalize hx : l[k] = x at e0 e1 HTK
      have HX := Lib.hid hx
      clear hx hr
      go_wp2_with ((at_builtin; refine wpList_append_own _ rfl (.tmp 11) (.tmp 16) 22 rfl w.heap.size 37 i0 _ 2 16 Tryd.underlying22 hi0 hz0 hz1 hz2 rfl (by decide) _ (k) (marksC (l.take k)) rfl (hown.alloc _) ⟨wr.heap.size, 0, none⟩ 1 1 [.int .i64 x.m, .int .i64 x.q] rfl rfl ?_ ?_ ?_ ?_ ?_ ?_); exact new_cells wr 37 [.int .i64 x.m, .int .i64 x.q]; (simp [Value.oneCell']); (unfold maxLen; omega); (omega); (have := hbel.size; simp; omega); intro v1 w1 hown1 hg1 _)
      go_roundw
      case rel =>
        refine ⟨k + 1, by omega, by go_num, ?_, (hbel.alloc hbel.size _).grown hg1 (by have := hbel.size; simp; omega) (fun b hb => own_base hown hb)⟩
        rw [HTK.out, marksC, flat_snoc]
        exact hown1
      case measure => simp [intOf]; omega
    · obtain rfl : k = l.length := by omega
      rw [List.take_length] at hown
      go_wp2
      go_ret
      exact ⟨_, rfl, hown, hbel⟩

theorem OwnM.updm {w : World} {B g c : Nat} {l : List Mk} {i : Nat} (h : OwnM w B (.slice (some ⟨g, 0, none⟩) l.length c) l) (hi : i < l.length) (n : Int) :
    OwnM (w.setCell ⟨g, i * 2, none⟩ (.int .i64 n)) B (.slice (some ⟨g, 0, none⟩) l.length c) (l.take i ++ ⟨n, l[i].q⟩ :: l.drop (i + 1)) ∧ ((∀ x ∈ l, x.q ≤ 9223372036854775807) → ∀ x ∈ l.take i ++ ⟨n, l[i].q⟩ :: l.drop (i + 1), x.q ≤ 9223372036854775807) ∧ (l.take i ++ (⟨n, l[i].q⟩ : Mk) :: l.drop (i + 1)).length = l.length := by
  obtain ⟨g', cap, cur, hv, hBg, hg, hnc, hcm, hcs, htk⟩ := own_row h (by omega)
  injection hv with hv1 hv2 hv3
  injection hv1 with hv1
  injection hv1 with hv1 _ _
  subst hv1 hv3
  have hll : (l.take i ++ (⟨n, l[i].q⟩ : Mk) :: l.drop (i + 1)).length = l.length := by simp; omega
  refine ⟨⟨by rw [marksC_len], .inr ⟨g, c, cur.setIfInBounds (i * 2) (.int .i64 n), by rw [hll], hBg, hg.set_ _ _, by rw [hll]; exact hnc, hcm, by simpa using hcs, ?_⟩⟩, ?_, hll⟩
  · rw [hll, Array.toList_setIfInBounds, List.take_set, htk]
    have e : l = l.take i ++ l[i] :: l.drop (i + 1) := by rw [← List.drop_eq_getElem_cons hi, List.take_append_drop]
    have e2 : marksC l = marksC (l.take i) ++ (l[i].cs ++ marksC (l.drop (i + 1))) := by
      rw [← marksC_cons, ← marksC_append, ← e]
    have ht : (marksC (l.take i)).length = i * 2 := by rw [marksC_len, List.length_take]; omega
    rw [e2, marksC_append, marksC_cons, List.set_append_right _ _ (by omega)]
    congr 1
    rw [ht, Nat.sub_self]
    rfl
  · intro hq x hx
    rcases List.mem_append.1 hx with h1 | h1
    · exact hq x (List.mem_of_mem_take h1)
    · rcases List.mem_cons.1 h1 with rfl | h2
      · exact hq l[i] (by simp)
      · exact hq x (List.mem_of_mem_drop h2)
/-- A list of marks as the statement's own positions have it. -/
def GoodM (W : World) (B : Nat) (v : Value) : Prop := ∃ L, OwnM W B v L ∧ (∀ x ∈ L, x.q ≤ 9223372036854775807) ∧ L.length ≤ 11
theorem GoodM.grown {W W' : World} {B : Nat} {v : Value} {row : Option Nat} (h : GoodM W B v) (hg : W.grownBy W' row) (hn : ∀ k, v.ownBlock = some k → row ≠ some k) : GoodM W' B v := by
  obtain ⟨L, h1, h2⟩ := h
  exact ⟨L, h1.grown hg hn, h2⟩
theorem GoodM.below {W W' : World} {B : Nat} {v : Value} (h : GoodM W B v) (hb : Below W.heap.size W W') : GoodM W' B v := by
  obtain ⟨L, h1, h2⟩ := h
  exact ⟨L, h1.below hb, h2⟩
theorem GoodM.types {W W' : World} {B : Nat} {v : Value} {row : Option Nat} {t : TypeId} (h : GoodM W B v) (hg : W.grownBy W' row) (hr : ∀ b, row = some b → ∃ cur, Blk W b t cur) (ht : t ≠ 37) : GoodM W' B v := by
  refine h.grown hg fun k hk hrk => ?_
  obtain ⟨L, h1, _⟩ := h
  obtain ⟨cur, hb⟩ := hr k hrk
  exact OnwM_ne h1 hb ht hk
theorem blk_own {w : World} {g B n : Nat} {L : List Mk} {cs : Array Value} (hb : Blk w g 37 cs) (hc : cs.toList = marksC L) (hn : n = L.length) (hB : B ≤ g) (hl : L.length ≤ 11) : OwnM w B (.slice (some ⟨g, 0, none⟩) n n) L := by
  subst hn
  have hs : cs.size = L.length * 2 := by rw [← Array.length_toList, hc, marksC_len]
  exact ⟨marksC_len L, .inr ⟨g, L.length, cs, rfl, hB, hb, Nat.le_refl _, by unfold maxLen; omega, hs, by rw [hc, List.take_of_length_le (by rw [marksC_len]; omega)]⟩⟩
theorem good_lit {w : World} {g B n : Nat} (L : List Mk) {cs : Array Value} (hb : Blk w g 37 cs) (hc : cs.toList = marksC L) (hn : n = L.length) (hB : B ≤ g) (hl : L.length ≤ 11) (hq : ∀ x ∈ L, x.q ≤ 9223372036854775807) : GoodM w B (.slice (some ⟨g, 0, none⟩) n n) := ⟨L, blk_own hb hc hn hB hl, hq, hl⟩
theorem row_blk {w : World} {B s n : Nat} {t : TypeId} {v : Value} {xs : List Value} (h : w.ownsRow B t s v n xs) : ∀ b, v.ownBlock = some b → ∃ cur, Blk w b t cur := by
  intro b hb
  rcases h.2 with h0 | ⟨g, cap, cur, rfl, _, h2, _⟩
  · rw [h0.1] at hb; simp [Value.ownBlock] at hb
  · have : g = b := by simpa [Value.ownBlock] using hb
    subst this
    exact ⟨cur, h2⟩
theorem infoSM : (Tryd.prog.info? 22).map (fun i => (i.zero, i.size, i.bytes)) = some (some (.slice none 0 0), 1, 24) := by kernel_rfl
theorem infoPos : (Tryd.prog.info? 24).map (fun i => (i.zero, i.size, i.bytes)) = some (some (.agg #[.int .i64 0, .slice none 0 0]), 2, 32) := by kernel_rfl
def posC (ps : List (Int × Value)) : List Value := ps.flatMap fun p => [.int .i64 p.1, p.2]
theorem posC_len (ps : List (Int × Value)) : (posC ps).length = ps.length * 2 := by
  induction ps with
  | nil => rfl
  | cons p ps ih => simp only [posC, List.flatMap_cons, List.length_append, List.length_cons, List.length_nil] at ih ⊢; omega
theorem posC_snoc (ps : List (Int × Value)) (p : Int × Value) : posC (ps ++ [p]) = posC ps ++ [.int .i64 p.1, p.2] := by simp [posC]
theorem good_slice {W : World} {B : Nat} {v : Value} (h : GoodM W B v) : ∃ A n c, v = .slice A n c := by
  obtain ⟨L, h1, _⟩ := h
  obtain ⟨A, c, rfl⟩ := own_slice h1
  exact ⟨_, _, _, rfl⟩
theorem own_nth {w : World} {B n : Nat} {t : TypeId} {v : Value} {vs : List Value} (h : w.ownsRow B t 1 v n vs) {k : Nat} (hk : k < n) : ∃ g c, v = .slice (some ⟨g, 0, none⟩) n c ∧ n ≤ c ∧ ∃ u, u ∈ vs ∧ w.cell? ⟨g, k, none⟩ = some u := by
  obtain ⟨g, cap, cur, rfl, _, hg, hnc, _, hcs, htk⟩ := own_row h (by omega)
  have hl : vs.length = n := by rw [h.1, Nat.mul_one]
  obtain ⟨x, hx⟩ : ∃ x, vs[k]? = some x := ⟨_, List.getElem?_eq_getElem (by omega)⟩
  refine ⟨g, cap, rfl, hnc, x, List.mem_of_getElem? hx, ?_⟩
  rw [← htk, List.getElem?_take] at hx
  rw [hg.cell]
  split at hx
  · simpa using hx
  · cases hx

/-- What some answers. -/
def SomeTo (w : World) (e : Ending) (w' : World) : Prop :=
  Below w.heap.size w w' ∧ ∃ v ps, e = .returned v ∧ w'.ownsRow w.heap.size 24 2 v ps.length (posC ps) ∧ ps.length ≤ 1000000 ∧ ∀ p ∈ ps, p.1 ≤ 9223372036854775807 ∧ GoodM w' w.heap.size p.2
set_option maxRecDepth 100000 in
set_option maxHeartbeats 4000000 in
theorem some_calls (w : World) : Calls Tryd.prog 54 #[] w (SomeTo w) := by
  obtain ⟨i0, hi0, hz0, hz1, hz2⟩ := info_parts infoMk
  obtain ⟨i1, hi1, hy0, hy1, hy2⟩ := info_parts infoSM
  obtain ⟨i2, hi2, hx0, hx1, hx2⟩ := info_parts infoPos
  have HB_0 := Lib.hid (Below.refl w.heap.size w)
  obtain ⟨gA, hgA⟩ : ∃ g, w.heap.size = g := ⟨_, rfl⟩
  obtain ⟨W1, hW1⟩ : ∃ X, w.alloc (.cells #[.int .i64 (-9223372036854775808), .int .i64 (-1), .int .i64 0, .int .i64 1, .int .i64 2, .int .i64 9223372036854775804, .int .i64 9223372036854775806, .int .i64 9223372036854775807] 2) = X := ⟨_, rfl⟩
  have hbW1 : Below w.heap.size w W1 := hW1 ▸ (Below.refl _ _).alloc (Nat.le_refl _) _
  have hnA : Blk W1 gA 2 #[.int .i64 (-9223372036854775808), .int .i64 (-1), .int .i64 0, .int .i64 1, .int .i64 2, .int .i64 9223372036854775804, .int .i64 9223372036854775806, .int .i64 9223372036854775807] := by rw [← hW1]; exact blkNew hgA
  have HB_1 := Lib.hid (HB_0.out.trans (hbW1.mono HB_0.out.size))
  have PA_1 := Lib.hid (hnA)
  clear hbW1 hnA
  obtain ⟨gs0, hgs0⟩ : ∃ g, W1.heap.size = g := ⟨_, rfl⟩
  obtain ⟨W2, hW2⟩ : ∃ X, W1.alloc (.cells #[.int .i64 7, .int .i64 3] 37) = X := ⟨_, rfl⟩
  have hbW2 : Below W1.heap.size W1 W2 := hW2 ▸ (Below.refl _ _).alloc (Nat.le_refl _) _
  have hns0 : Blk W2 gs0 37 #[.int .i64 7, .int .i64 3] := by rw [← hW2]; exact blkNew hgs0
  have HB_2 := Lib.hid (HB_1.out.trans (hbW2.mono HB_1.out.size))
  have PA_2 := Lib.hid (PA_1.out.below hbW2 PA_1.out.lt)
  have Ps0_2 := Lib.hid (hns0)
  clear hbW2 hns0
  obtain ⟨gs1, hgs1⟩ : ∃ g, W2.heap.size = g := ⟨_, rfl⟩
  obtain ⟨W3, hW3⟩ : ∃ X, W2.alloc (.cells #[.int .i64 1, .int .i64 1, .int .i64 65536, .int .i64 1] 37) = X := ⟨_, rfl⟩
  have hbW3 : Below W2.heap.size W2 W3 := hW3 ▸ (Below.refl _ _).alloc (Nat.le_refl _) _
  have hns1 : Blk W3 gs1 37 #[.int .i64 1, .int .i64 1, .int .i64 65536, .int .i64 1] := by rw [← hW3]; exact blkNew hgs1
  have HB_3 := Lib.hid (HB_2.out.trans (hbW3.mono HB_2.out.size))
  have PA_3 := Lib.hid (PA_2.out.below hbW3 PA_2.out.lt)
  have Ps0_3 := Lib.hid (Ps0_2.out.below hbW3 Ps0_2.out.lt)
  have Ps1_3 := Lib.hid (hns1)
  clear hbW3 hns1
  obtain ⟨gs2, hgs2⟩ : ∃ g, W3.heap.size = g := ⟨_, rfl⟩
  obtain ⟨W4, hW4⟩ : ∃ X, W3.alloc (.cells #[.int .i64 0, .int .i64 1] 37) = X := ⟨_, rfl⟩
  have hbW4 : Below W3.heap.size W3 W4 := hW4 ▸ (Below.refl _ _).alloc (Nat.le_refl _) _
  have hns2 : Blk W4 gs2 37 #[.int .i64 0, .int .i64 1] := by rw [← hW4]; exact blkNew hgs2
  have HB_4 := Lib.hid (HB_3.out.trans (hbW4.mono HB_3.out.size))
  have PA_4 := Lib.hid (PA_3.out.below hbW4 PA_3.out.lt)
  have Ps0_4 := Lib.hid (Ps0_3.out.below hbW4 Ps0_3.out.lt)
  have Ps1_4 := Lib.hid (Ps1_3.out.below hbW4 Ps1_3.out.lt)
  have Ps2_4 := Lib.hid (hns2)
  clear hbW4 hns2
  obtain ⟨gs3, hgs3⟩ : ∃ g, W4.heap.size = g := ⟨_, rfl⟩
  obtain ⟨W5, hW5⟩ : ∃ X, W4.alloc (.cells #[.int .i64 65537, .int .i64 1] 37) = X := ⟨_, rfl⟩
  have hbW5 : Below W4.heap.size W4 W5 := hW5 ▸ (Below.refl _ _).alloc (Nat.le_refl _) _
  have hns3 : Blk W5 gs3 37 #[.int .i64 65537, .int .i64 1] := by rw [← hW5]; exact blkNew hgs3
  have HB_5 := Lib.hid (HB_4.out.trans (hbW5.mono HB_4.out.size))
  have PA_5 := Lib.hid (PA_4.out.below hbW5 PA_4.out.lt)
  have Ps0_5 := Lib.hid (Ps0_4.out.below hbW5 Ps0_4.out.lt)
  have Ps1_5 := Lib.hid (Ps1_4.out.below hbW5 Ps1_4.out.lt)
  have Ps2_5 := Lib.hid (Ps2_4.out.below hbW5 Ps2_4.out.lt)
  have Ps3_5 := Lib.hid (hns3)
  clear hbW5 hns3
  obtain ⟨gs4, hgs4⟩ : ∃ g, W5.heap.size = g := ⟨_, rfl⟩
  obtain ⟨W6, hW6⟩ : ∃ X, W5.alloc (.cells #[.int .i64 7, .int .i64 0] 37) = X := ⟨_, rfl⟩
  have hbW6 : Below W5.heap.size W5 W6 := hW6 ▸ (Below.refl _ _).alloc (Nat.le_refl _) _
  have hns4 : Blk W6 gs4 37 #[.int .i64 7, .int .i64 0] := by rw [← hW6]; exact blkNew hgs4
  have HB_6 := Lib.hid (HB_5.out.trans (hbW6.mono HB_5.out.size))
  have PA_6 := Lib.hid (PA_5.out.below hbW6 PA_5.out.lt)
  have Ps0_6 := Lib.hid (Ps0_5.out.below hbW6 Ps0_5.out.lt)
  have Ps1_6 := Lib.hid (Ps1_5.out.below hbW6 Ps1_5.out.lt)
  have Ps2_6 := Lib.hid (Ps2_5.out.below hbW6 Ps2_5.out.lt)
  have Ps3_6 := Lib.hid (Ps3_5.out.below hbW6 Ps3_5.out.lt)
  have Ps4_6 := Lib.hid (hns4)
  clear hbW6 hns4
  obtain ⟨gs5, hgs5⟩ : ∃ g, W6.heap.size = g := ⟨_, rfl⟩
  obtain ⟨W7, hW7⟩ : ∃ X, W6.alloc (.cells #[.int .i64 7, .int .i64 (-1)] 37) = X := ⟨_, rfl⟩
  have hbW7 : Below W6.heap.size W6 W7 := hW7 ▸ (Below.refl _ _).alloc (Nat.le_refl _) _
  have hns5 : Blk W7 gs5 37 #[.int .i64 7, .int .i64 (-1)] := by rw [← hW7]; exact blkNew hgs5
  have HB_7 := Lib.hid (HB_6.out.trans (hbW7.mono HB_6.out.size))
  have PA_7 := Lib.hid (PA_6.out.below hbW7 PA_6.out.lt)
  have Ps0_7 := Lib.hid (Ps0_6.out.below hbW7 Ps0_6.out.lt)
  have Ps1_7 := Lib.hid (Ps1_6.out.below hbW7 Ps1_6.out.lt)
  have Ps2_7 := Lib.hid (Ps2_6.out.below hbW7 Ps2_6.out.lt)
  have Ps3_7 := Lib.hid (Ps3_6.out.below hbW7 Ps3_6.out.lt)
  have Ps4_7 := Lib.hid (Ps4_6.out.below hbW7 Ps4_6.out.lt)
  have Ps5_7 := Lib.hid (hns5)
  clear hbW7 hns5
  obtain ⟨gs6, hgs6⟩ : ∃ g, W7.heap.size = g := ⟨_, rfl⟩
  obtain ⟨W8, hW8⟩ : ∃ X, W7.alloc (.cells #[.int .i64 7, .int .i64 1, .int .i64 7, .int .i64 1] 37) = X := ⟨_, rfl⟩
  have hbW8 : Below W7.heap.size W7 W8 := hW8 ▸ (Below.refl _ _).alloc (Nat.le_refl _) _
  have hns6 : Blk W8 gs6 37 #[.int .i64 7, .int .i64 1, .int .i64 7, .int .i64 1] := by rw [← hW8]; exact blkNew hgs6
  have HB_8 := Lib.hid (HB_7.out.trans (hbW8.mono HB_7.out.size))
  have PA_8 := Lib.hid (PA_7.out.below hbW8 PA_7.out.lt)
  have Ps0_8 := Lib.hid (Ps0_7.out.below hbW8 Ps0_7.out.lt)
  have Ps1_8 := Lib.hid (Ps1_7.out.below hbW8 Ps1_7.out.lt)
  have Ps2_8 := Lib.hid (Ps2_7.out.below hbW8 Ps2_7.out.lt)
  have Ps3_8 := Lib.hid (Ps3_7.out.below hbW8 Ps3_7.out.lt)
  have Ps4_8 := Lib.hid (Ps4_7.out.below hbW8 Ps4_7.out.lt)
  have Ps5_8 := Lib.hid (Ps5_7.out.below hbW8 Ps5_7.out.lt)
  have Ps6_8 := Lib.hid (hns6)
  clear hbW8 hns6
  obtain ⟨gs7, hgs7⟩ : ∃ g, W8.heap.size = g := ⟨_, rfl⟩
  obtain ⟨W9, hW9⟩ : ∃ X, W8.alloc (.cells #[.int .i64 7, .int .i64 1, .int .i64 6, .int .i64 9223372036854775807] 37) = X := ⟨_, rfl⟩
  have hbW9 : Below W8.heap.size W8 W9 := hW9 ▸ (Below.refl _ _).alloc (Nat.le_refl _) _
  have hns7 : Blk W9 gs7 37 #[.int .i64 7, .int .i64 1, .int .i64 6, .int .i64 9223372036854775807] := by rw [← hW9]; exact blkNew hgs7
  have HB_9 := Lib.hid (HB_8.out.trans (hbW9.mono HB_8.out.size))
  have PA_9 := Lib.hid (PA_8.out.below hbW9 PA_8.out.lt)
  have Ps0_9 := Lib.hid (Ps0_8.out.below hbW9 Ps0_8.out.lt)
  have Ps1_9 := Lib.hid (Ps1_8.out.below hbW9 Ps1_8.out.lt)
  have Ps2_9 := Lib.hid (Ps2_8.out.below hbW9 Ps2_8.out.lt)
  have Ps3_9 := Lib.hid (Ps3_8.out.below hbW9 Ps3_8.out.lt)
  have Ps4_9 := Lib.hid (Ps4_8.out.below hbW9 Ps4_8.out.lt)
  have Ps5_9 := Lib.hid (Ps5_8.out.below hbW9 Ps5_8.out.lt)
  have Ps6_9 := Lib.hid (Ps6_8.out.below hbW9 Ps6_8.out.lt)
  have Ps7_9 := Lib.hid (hns7)
  clear hbW9 hns7
  obtain ⟨gs8, hgs8⟩ : ∃ g, W9.heap.size = g := ⟨_, rfl⟩
  obtain ⟨W10, hW10⟩ : ∃ X, W9.alloc (.cells #[.int .i64 7, .int .i64 9223372036854775807] 37) = X := ⟨_, rfl⟩
  have hbW10 : Below W9.heap.size W9 W10 := hW10 ▸ (Below.refl _ _).alloc (Nat.le_refl _) _
  have hns8 : Blk W10 gs8 37 #[.int .i64 7, .int .i64 9223372036854775807] := by rw [← hW10]; exact blkNew hgs8
  have HB_10 := Lib.hid (HB_9.out.trans (hbW10.mono HB_9.out.size))
  have PA_10 := Lib.hid (PA_9.out.below hbW10 PA_9.out.lt)
  have Ps0_10 := Lib.hid (Ps0_9.out.below hbW10 Ps0_9.out.lt)
  have Ps1_10 := Lib.hid (Ps1_9.out.below hbW10 Ps1_9.out.lt)
  have Ps2_10 := Lib.hid (Ps2_9.out.below hbW10 Ps2_9.out.lt)
  have Ps3_10 := Lib.hid (Ps3_9.out.below hbW10 Ps3_9.out.lt)
  have Ps4_10 := Lib.hid (Ps4_9.out.below hbW10 Ps4_9.out.lt)
  have Ps5_10 := Lib.hid (Ps5_9.out.below hbW10 Ps5_9.out.lt)
  have Ps6_10 := Lib.hid (Ps6_9.out.below hbW10 Ps6_9.out.lt)
  have Ps7_10 := Lib.hid (Ps7_9.out.below hbW10 Ps7_9.out.lt)
  have Ps8_10 := Lib.hid (hns8)
  clear hbW10 hns8
  obtain ⟨gs9, hgs9⟩ : ∃ g, W10.heap.size = g := ⟨_, rfl⟩
  obtain ⟨W11, hW11⟩ : ∃ X, W10.alloc (.cells #[.int .i64 7, .int .i64 9223372036854775806, .int .i64 8, .int .i64 1] 37) = X := ⟨_, rfl⟩
  have hbW11 : Below W10.heap.size W10 W11 := hW11 ▸ (Below.refl _ _).alloc (Nat.le_refl _) _
  have hns9 : Blk W11 gs9 37 #[.int .i64 7, .int .i64 9223372036854775806, .int .i64 8, .int .i64 1] := by rw [← hW11]; exact blkNew hgs9
  have HB_11 := Lib.hid (HB_10.out.trans (hbW11.mono HB_10.out.size))
  have PA_11 := Lib.hid (PA_10.out.below hbW11 PA_10.out.lt)
  have Ps0_11 := Lib.hid (Ps0_10.out.below hbW11 Ps0_10.out.lt)
  have Ps1_11 := Lib.hid (Ps1_10.out.below hbW11 Ps1_10.out.lt)
  have Ps2_11 := Lib.hid (Ps2_10.out.below hbW11 Ps2_10.out.lt)
  have Ps3_11 := Lib.hid (Ps3_10.out.below hbW11 Ps3_10.out.lt)
  have Ps4_11 := Lib.hid (Ps4_10.out.below hbW11 Ps4_10.out.lt)
  have Ps5_11 := Lib.hid (Ps5_10.out.below hbW11 Ps5_10.out.lt)
  have Ps6_11 := Lib.hid (Ps6_10.out.below hbW11 Ps6_10.out.lt)
  have Ps7_11 := Lib.hid (Ps7_10.out.below hbW11 Ps7_10.out.lt)
  have Ps8_11 := Lib.hid (Ps8_10.out.below hbW11 Ps8_10.out.lt)
  have Ps9_11 := Lib.hid (hns9)
  clear hbW11 hns9
  obtain ⟨gs10, hgs10⟩ : ∃ g, W11.heap.size = g := ⟨_, rfl⟩
  obtain ⟨W12, hW12⟩ : ∃ X, W11.alloc (.cells #[.int .i64 (-3), .int .i64 1] 37) = X := ⟨_, rfl⟩
  have hbW12 : Below W11.heap.size W11 W12 := hW12 ▸ (Below.refl _ _).alloc (Nat.le_refl _) _
  have hns10 : Blk W12 gs10 37 #[.int .i64 (-3), .int .i64 1] := by rw [← hW12]; exact blkNew hgs10
  have HB_12 := Lib.hid (HB_11.out.trans (hbW12.mono HB_11.out.size))
  have PA_12 := Lib.hid (PA_11.out.below hbW12 PA_11.out.lt)
  have Ps0_12 := Lib.hid (Ps0_11.out.below hbW12 Ps0_11.out.lt)
  have Ps1_12 := Lib.hid (Ps1_11.out.below hbW12 Ps1_11.out.lt)
  have Ps2_12 := Lib.hid (Ps2_11.out.below hbW12 Ps2_11.out.lt)
  have Ps3_12 := Lib.hid (Ps3_11.out.below hbW12 Ps3_11.out.lt)
  have Ps4_12 := Lib.hid (Ps4_11.out.below hbW12 Ps4_11.out.lt)
  have Ps5_12 := Lib.hid (Ps5_11.out.below hbW12 Ps5_11.out.lt)
  have Ps6_12 := Lib.hid (Ps6_11.out.below hbW12 Ps6_11.out.lt)
  have Ps7_12 := Lib.hid (Ps7_11.out.below hbW12 Ps7_11.out.lt)
  have Ps8_12 := Lib.hid (Ps8_11.out.below hbW12 Ps8_11.out.lt)
  have Ps9_12 := Lib.hid (Ps9_11.out.below hbW12 Ps9_11.out.lt)
  have Ps10_12 := Lib.hid (hns10)
  clear hbW12 hns10
  obtain ⟨gM, hgM⟩ : ∃ g, W12.heap.size = g := ⟨_, rfl⟩
  obtain ⟨W13, hW13⟩ : ∃ X, W12.alloc (.cells #[.slice none 0 0, .slice (some ⟨gs0, 0, none⟩) 1 1, .slice (some ⟨gs1, 0, none⟩) 2 2, .slice (some ⟨gs2, 0, none⟩) 1 1, .slice (some ⟨gs3, 0, none⟩) 1 1, .slice (some ⟨gs4, 0, none⟩) 1 1, .slice (some ⟨gs5, 0, none⟩) 1 1, .slice (some ⟨gs6, 0, none⟩) 2 2, .slice (some ⟨gs7, 0, none⟩) 2 2, .slice (some ⟨gs8, 0, none⟩) 1 1, .slice (some ⟨gs9, 0, none⟩) 2 2, .slice (some ⟨gs10, 0, none⟩) 1 1] 22) = X := ⟨_, rfl⟩
  have hbW13 : Below W12.heap.size W12 W13 := hW13 ▸ (Below.refl _ _).alloc (Nat.le_refl _) _
  have hnM : Blk W13 gM 22 #[.slice none 0 0, .slice (some ⟨gs0, 0, none⟩) 1 1, .slice (some ⟨gs1, 0, none⟩) 2 2, .slice (some ⟨gs2, 0, none⟩) 1 1, .slice (some ⟨gs3, 0, none⟩) 1 1, .slice (some ⟨gs4, 0, none⟩) 1 1, .slice (some ⟨gs5, 0, none⟩) 1 1, .slice (some ⟨gs6, 0, none⟩) 2 2, .slice (some ⟨gs7, 0, none⟩) 2 2, .slice (some ⟨gs8, 0, none⟩) 1 1, .slice (some ⟨gs9, 0, none⟩) 2 2, .slice (some ⟨gs10, 0, none⟩) 1 1] := by rw [← hW13]; exact blkNew hgM
  have HB_13 := Lib.hid (HB_12.out.trans (hbW13.mono HB_12.out.size))
  have PA_13 := Lib.hid (PA_12.out.below hbW13 PA_12.out.lt)
  have Ps0_13 := Lib.hid (Ps0_12.out.below hbW13 Ps0_12.out.lt)
  have Ps1_13 := Lib.hid (Ps1_12.out.below hbW13 Ps1_12.out.lt)
  have Ps2_13 := Lib.hid (Ps2_12.out.below hbW13 Ps2_12.out.lt)
  have Ps3_13 := Lib.hid (Ps3_12.out.below hbW13 Ps3_12.out.lt)
  have Ps4_13 := Lib.hid (Ps4_12.out.below hbW13 Ps4_12.out.lt)
  have Ps5_13 := Lib.hid (Ps5_12.out.below hbW13 Ps5_12.out.lt)
  have Ps6_13 := Lib.hid (Ps6_12.out.below hbW13 Ps6_12.out.lt)
  have Ps7_13 := Lib.hid (Ps7_12.out.below hbW13 Ps7_12.out.lt)
  have Ps8_13 := Lib.hid (Ps8_12.out.below hbW13 Ps8_12.out.lt)
  have Ps9_13 := Lib.hid (Ps9_12.out.below hbW13 Ps9_12.out.lt)
  have Ps10_13 := Lib.hid (Ps10_12.out.below hbW13 Ps10_12.out.lt)
  have PM_13 := Lib.hid (hnM)
  clear hbW13 hnM
  have HGE : Hid (w.heap.size ≤ gA) := by show _ ≤ _; omega
  have hlt0 := Ps0_13.out.lt
  have hgg0 : w.heap.size ≤ gs0 := by
    have h1 := PA_1.out.lt
    rw [hgs0] at h1
    omega
  have hgg1 : w.heap.size ≤ gs1 := by
    have h1 := Ps0_2.out.lt
    rw [hgs1] at h1
    have h2 := hgg0; omega
  have hgg2 : w.heap.size ≤ gs2 := by
    have h1 := Ps1_3.out.lt
    rw [hgs2] at h1
    have h2 := hgg1; omega
  have hgg3 : w.heap.size ≤ gs3 := by
    have h1 := Ps2_4.out.lt
    rw [hgs3] at h1
    have h2 := hgg2; omega
  have hgg4 : w.heap.size ≤ gs4 := by
    have h1 := Ps3_5.out.lt
    rw [hgs4] at h1
    have h2 := hgg3; omega
  have hgg5 : w.heap.size ≤ gs5 := by
    have h1 := Ps4_6.out.lt
    rw [hgs5] at h1
    have h2 := hgg4; omega
  have hgg6 : w.heap.size ≤ gs6 := by
    have h1 := Ps5_7.out.lt
    rw [hgs6] at h1
    have h2 := hgg5; omega
  have hgg7 : w.heap.size ≤ gs7 := by
    have h1 := Ps6_8.out.lt
    rw [hgs7] at h1
    have h2 := hgg6; omega
  have hgg8 : w.heap.size ≤ gs8 := by
    have h1 := Ps7_9.out.lt
    rw [hgs8] at h1
    have h2 := hgg7; omega
  have hgg9 : w.heap.size ≤ gs9 := by
    have h1 := Ps8_10.out.lt
    rw [hgs9] at h1
    have h2 := hgg8; omega
  have hgg10 : w.heap.size ≤ gs10 := by
    have h1 := Ps9_11.out.lt
    rw [hgs10] at h1
    have h2 := hgg9; omega
  have hggM : w.heap.size ≤ gM := by
    have h1 := Ps10_12.out.lt
    rw [hgM] at h1
    have h2 := hgg10
    omega
  have HGG : Hid (w.heap.size ≤ gs0 ∧ w.heap.size ≤ gs1 ∧ w.heap.size ≤ gs2 ∧ w.heap.size ≤ gs3 ∧ w.heap.size ≤ gs4 ∧ w.heap.size ≤ gs5 ∧ w.heap.size ≤ gs6 ∧ w.heap.size ≤ gs7 ∧ w.heap.size ≤ gs8 ∧ w.heap.size ≤ gs9 ∧ w.heap.size ≤ gs10 ∧ w.heap.size ≤ gM) := ⟨hgg0, hgg1, hgg2, hgg3, hgg4, hgg5, hgg6, hgg7, hgg8, hgg9, hgg10, hggM⟩
  clear hgg0 hgg1 hgg2 hgg3 hgg4 hgg5 hgg6 hgg7 hgg8 hgg9 hgg10 hggM hlt0
  go_enter Tryd.func54, Tryd.ntmps54
  go_wp2_with (fail)
  clear hW1 hgA hW2 hgs0 hW3 hgs1 hW4 hgs2 hW5 hgs3 hW6 hgs4 hW7 hgs5 hW8 hgs6 hW9 hgs7 hW10 hgs8 hW11 hgs9 hW12 hgs10 hW13 hgM
  go_loopw [4, 5] (fun mk nn wr => ∃ k : Nat, 7 ≤ k ∧ k ≤ 11 ∧ nn = .int .i64 k ∧ ∃ n vs, wr.ownsRow w.heap.size 22 1 mk n vs ∧ n + 22 ≤ 20 + 2 * k ∧ (∀ v ∈ vs, GoodM wr w.heap.size v) ∧ Blk wr gA 2 #[.int .i64 (-9223372036854775808), .int .i64 (-1), .int .i64 0, .int .i64 1, .int .i64 2, .int .i64 9223372036854775804, .int .i64 9223372036854775806, .int .i64 9223372036854775807] ∧ Below w.heap.size w wr) (fun _ nn _ => 11 - (intOf nn).toNat)
  case atStart =>
    obtain ⟨q0, q1, q2, q3, q4, q5, q6, q7, q8, q9, q10, qM⟩ := HGG.out
    refine ⟨7, Nat.le_refl _, by decide, rfl, 12, [.slice none 0 0, .slice (some ⟨gs0, 0, none⟩) 1 1, .slice (some ⟨gs1, 0, none⟩) 2 2, .slice (some ⟨gs2, 0, none⟩) 1 1, .slice (some ⟨gs3, 0, none⟩) 1 1, .slice (some ⟨gs4, 0, none⟩) 1 1, .slice (some ⟨gs5, 0, none⟩) 1 1, .slice (some ⟨gs6, 0, none⟩) 2 2, .slice (some ⟨gs7, 0, none⟩) 2 2, .slice (some ⟨gs8, 0, none⟩) 1 1, .slice (some ⟨gs9, 0, none⟩) 2 2, .slice (some ⟨gs10, 0, none⟩) 1 1], ⟨rfl, .inr ⟨gM, 12, _, rfl, qM, PM_13.out, Nat.le_refl _, by unfold maxLen; decide, rfl, rfl⟩⟩, by decide, ?_, PA_13.out, HB_13.out⟩
    intro v hv
    simp only [List.mem_cons, List.not_mem_nil, or_false] at hv
    rcases hv with rfl | rfl | rfl | rfl | rfl | rfl | rfl | rfl | rfl | rfl | rfl | rfl
    · exact ⟨[], OwnM.nil _ _, by simp, by simp⟩
    · exact good_lit [⟨7, 3⟩] Ps0_13.out rfl rfl q0 (by simp) (by intro x hx; simp at hx; subst hx; decide)
    · exact good_lit [⟨1, 1⟩, ⟨65536, 1⟩] Ps1_13.out rfl rfl q1 (by simp) (by intro x hx; simp at hx; rcases hx with rfl | rfl <;> decide)
    · exact good_lit [⟨0, 1⟩] Ps2_13.out rfl rfl q2 (by simp) (by intro x hx; simp at hx; subst hx; decide)
    · exact good_lit [⟨65537, 1⟩] Ps3_13.out rfl rfl q3 (by simp) (by intro x hx; simp at hx; subst hx; decide)
    · exact good_lit [⟨7, 0⟩] Ps4_13.out rfl rfl q4 (by simp) (by intro x hx; simp at hx; subst hx; decide)
    · exact good_lit [⟨7, (-1)⟩] Ps5_13.out rfl rfl q5 (by simp) (by intro x hx; simp at hx; subst hx; decide)
    · exact good_lit [⟨7, 1⟩, ⟨7, 1⟩] Ps6_13.out rfl rfl q6 (by simp) (by intro x hx; simp at hx; rcases hx with rfl | rfl <;> decide)
    · exact good_lit [⟨7, 1⟩, ⟨6, 9223372036854775807⟩] Ps7_13.out rfl rfl q7 (by simp) (by intro x hx; simp at hx; rcases hx with rfl | rfl <;> decide)
    · exact good_lit [⟨7, 9223372036854775807⟩] Ps8_13.out rfl rfl q8 (by simp) (by intro x hx; simp at hx; subst hx; decide)
    · exact good_lit [⟨7, 9223372036854775806⟩, ⟨8, 1⟩] Ps9_13.out rfl rfl q9 (by simp) (by intro x hx; simp at hx; rcases hx with rfl | rfl <;> decide)
    · exact good_lit [⟨(-3), 1⟩] Ps10_13.out rfl rfl q10 (by simp) (by intro x hx; simp at hx; subst hx; decide)
  case round =>
    clear HB_13 PA_13 Ps0_13 Ps1_13 Ps2_13 Ps3_13 Ps4_13 Ps5_13 Ps6_13 Ps7_13 Ps8_13 Ps9_13 Ps10_13 PM_13 HGG
    obtain ⟨k, hk7, hk11, rfl, n, vs, hown, hn, hgood, hbA, hB⟩ := hrel
    have HO := Lib.hid hown
    have HGD := Lib.hid hgood
    have HBA := Lib.hid hbA
    have HB := Lib.hid hB
    clear hown hgood hbA hB
    by_cases hlt : k < 11
    · have hkl : (k : Int) < 11 := by omega
      go_wp2_with (fail)
      go_loopw [6, 7] (fun m i wq => ∃ j : Nat, j ≤ k ∧ i = .int .i64 j ∧ ∃ L, OwnM wq wr.heap.size m L ∧ L.length = j ∧ (∀ x ∈ L, x.q ≤ 9223372036854775807) ∧ Below wr.heap.size wr wq) (fun _ i _ => k - (intOf i).toNat)
      case atStart => exact ⟨0, Nat.zero_le _, rfl, [], OwnM.nil _ _, rfl, by simp, Below.refl _ _⟩
      case round =>
        obtain ⟨j, hj, rfl, L, hL, hLl, hLq, hbq⟩ := hrel
        rename World => wq
        have HL := Lib.hid hL
        have HLQ := Lib.hid hLq
        have HBQ := Lib.hid hbq
        clear hL hLq hbq
        by_cases hjk : j < k
        · have hjl : (j : Int) < (k : Int) := by omega
          go_wp2_with ((at_builtin; refine wpList_append_own _ rfl (.tmp 57) (.tmp 61) 22 rfl wr.heap.size 37 i0 _ 2 16 Tryd.underlying22 hi0 hz0 hz1 hz2 rfl (by decide) _ L.length (marksC L) rfl (HL.out.alloc _) ⟨wq.heap.size, 0, none⟩ 1 1 [.int .i64 ((j : Int) + 1), .int .i64 2] rfl rfl ?_ ?_ ?_ ?_ ?_ ?_); exact new_cells wq 37 [.int .i64 ((j : Int) + 1), .int .i64 2]; (simp [Value.oneCell']); (unfold maxLen; omega); (omega); (have := HBQ.out.size; simp; omega); intro v1 w1 hown1 hg1 _)
          go_roundw
          case rel =>
            refine ⟨j + 1, by omega, by go_num, L ++ [⟨(j : Int) + 1, 2⟩], ?_, by simp; omega, ?_, (HBQ.out.alloc HBQ.out.size _).grown hg1 (by have := HBQ.out.size; simp; omega) (fun b hb => own_base HL.out hb)⟩
            · unfold OwnM
              rw [marksC_append, List.length_append]
              exact hown1
            · intro x hx
              rcases List.mem_append.1 hx with h | h
              · exact HLQ.out x h
              · simp at h; subst h; exact (by decide : (2 : Int) ≤ 9223372036854775807)
          case measure => simp [intOf]; omega
        · obtain rfl : j = k := by omega
          subst hLl
          obtain ⟨A6, c6, rfl⟩ := own_slice HL.out
          clear hjk hj
          have HOq := Lib.hid (own_below HO.out HBQ.out)
          have HGq := Lib.hid (fun v hv => (HGD.out v hv).below HBQ.out)
          have HAq := Lib.hid (HBA.out.below HBQ.out HBA.out.lt)
          have HBq := Lib.hid (HB.out.trans (HBQ.out.mono HB.out.size))
          obtain ⟨WN, hWN⟩ : ∃ X, wq.alloc (.cells #[.slice A6 L.length c6] 22) = X := ⟨_, rfl⟩
          obtain ⟨gN, hgN⟩ : ∃ g, wq.heap.size = g := ⟨_, rfl⟩
          have hbN : Below wq.heap.size wq WN := hWN ▸ (Below.refl _ _).alloc (Nat.le_refl _) _
          have HN : Hid (Blk WN gN 22 #[.slice A6 L.length c6]) := by rw [← hWN]; exact blkNew hgN
          have HON := Lib.hid (own_below HOq.out hbN)
          have HGN := Lib.hid (fun v hv => (HGq.out v hv).below hbN)
          have HAN := Lib.hid (HAq.out.below hbN HAq.out.lt)
          have HBN := Lib.hid (HBq.out.trans (hbN.mono HBq.out.size))
          have HLN := Lib.hid (HL.out.below hbN)
          have HGm : Hid (GoodM WN w.heap.size (.slice A6 L.length c6)) := ⟨L, HLN.out.base HB.out.size, HLQ.out, by omega⟩
          clear hbN
          go_wp2_with ((at_builtin; refine wpList_append_own _ rfl (.tmp 63) (.tmp 65) 48 rfl w.heap.size 22 i1 _ 1 24 Tryd.underlying48 hi1 hy0 hy1 hy2 rfl (by decide) _ n vs rfl HON.out ⟨gN, 0, none⟩ 1 1 [.slice A6 L.length c6] rfl rfl ?_ ?_ ?_ ?_ ?_ ?_); exact blk_cells HN.out; (simp [Value.oneCell']); (unfold maxLen; omega); (omega); (exact HBN.out.size); intro mk2 w1 hown1 hg1 _; have HO1 := Lib.hid hown1; have HG1 : Hid (∀ v ∈ vs ++ [.slice A6 L.length c6], GoodM w1 w.heap.size v) := (fun v hv => (List.mem_append.1 hv).elim (fun h => (HGN.out v h).types hg1 (row_blk HON.out) (by decide)) (fun h => (List.mem_singleton.1 h) ▸ HGm.out.types hg1 (row_blk HON.out) (by decide))); have HA1 := Lib.hid (HAN.out.grown hg1 (fun h => (own_blk_ne HON.out HAN.out (by decide)) h.symm)); have HL1 := Lib.hid (HLN.out.grown hg1 (fun k hk h => by obtain ⟨cur, hb⟩ := row_blk HON.out k h; exact OnwM_ne HLN.out hb (by decide) hk)); have HB1 := Lib.hid (HBN.out.grown hg1 HBN.out.size (fun b hb => own_base HON.out hb)); clear hown1 hg1)
          skip
          have hcall := copyMarks_calls L A6 c6 w1.heap.size w1 (Reads.of_own HL1.out) (Nat.le_refl _) (by omega)
          refine hcall.mono ?_
          clear hcall
          rintro e w2 ⟨v8, rfl, hm8, hb2⟩
          obtain ⟨g8, c8, cur8, rfl, hB8, hg8, hnc8, hcm8, hcs8, ht8⟩ := own_row hm8 (by omega)
          have HM8 := Lib.hid hm8
          have HO2 := Lib.hid (own_below HO1.out hb2)
          have HG2 := Lib.hid (fun v hv => (HG1.out v hv).below hb2)
          have HA2 := Lib.hid (HA1.out.below hb2 HA1.out.lt)
          have HB2 := Lib.hid (HB1.out.trans (hb2.mono HB1.out.size))
          have HV8 : Hid (∀ v ∈ vs ++ [.slice A6 L.length c6], ∀ k, v.ownBlock = some k → k ≠ g8) := by
            intro v hv k hk
            obtain ⟨L0, h0, _⟩ := HG1.out v hv
            have := (World.ownsRow.lt h0 k hk).2
            omega
          have hjj : ((L.length : Int) - 1) = ((L.length - 1 : Nat) : Int) := by omega
          have hjn : ((L.length : Int) - 1).toNat = L.length - 1 := by omega
          have hw1 : IntKind.i64.wrap ((L.length : Int) - 1) = (L.length : Int) - 1 := IntWalk.i64_in _ (by omega)
          have hj0 : (0 : Int) ≤ (L.length : Int) - 1 := by omega
          have hj1 : (L.length : Int) - 1 < (L.length : Int) := by omega
          have hx8 : ∃ u, w2.cell? ⟨g8, (L.length - 1) * 2, none⟩ = some u := by rw [Blk.cell hg8, Array.getElem?_eq_getElem (by omega)]; exact ⟨_, rfl⟩
          obtain ⟨u8, hu8⟩ := hx8
          have hf8 := Blk.frozen hg8 ((L.length - 1) * 2)
          obtain ⟨W3, hW3⟩ : ∃ X, w2.setCell ⟨g8, (L.length - 1) * 2, none⟩ (.int .i64 65536) = X := ⟨_, rfl⟩
          have hg3 : w2.grownBy W3 (some g8) := by rw [← hW3]; exact grown_setCellsL [.int .i64 65536] ((L.length - 1) * 2) w2
          have HM3 : Hid (∃ L3, OwnM W3 w1.heap.size (.slice (some ⟨g8, 0, none⟩) L.length c8) L3 ∧ (∀ x ∈ L3, x.q ≤ 9223372036854775807) ∧ L3.length = L.length) := by
            rw [← hW3]
            have := HM8.out.updm (i := L.length - 1) (by omega) 65536
            exact ⟨_, this.1, fun x hx => this.2.1 HLQ.out x hx, this.2.2⟩
          have HO3 := Lib.hid (own_types HO2.out hg3 (fun b hb => by injection hb with hb; subst hb; exact ⟨_, hg8⟩) (by decide))
          have HG3 := Lib.hid (fun v hv => (HG2.out v hv).grown hg3 (fun k hk h => by injection h with h; exact HV8.out v hv k hk h.symm))
          have HA3 := Lib.hid (HA2.out.grown hg3 (by intro h; injection h with h; exact Blk.ne_ HA2.out hg8 (by decide) h))
          have HB3 := Lib.hid (HB2.out.trans (below_of_grown hg3 (fun g h => by injection h with h; have := HB1.out.size; omega) HB2.out.size))
          clear hg3 hg8 hcm8 hcs8 ht8 hm8 hb2
          obtain ⟨WP, hWP⟩ : ∃ X, W3.alloc (.cells #[.slice (some ⟨g8, 0, none⟩) L.length c8] 22) = X := ⟨_, rfl⟩
          obtain ⟨gP, hgP⟩ : ∃ g, W3.heap.size = g := ⟨_, rfl⟩
          have hbP : Below W3.heap.size W3 WP := hWP ▸ (Below.refl _ _).alloc (Nat.le_refl _) _
          have HP : Hid (Blk WP gP 22 #[.slice (some ⟨g8, 0, none⟩) L.length c8]) := by rw [← hWP]; exact blkNew hgP
          have HOP := Lib.hid (own_below HO3.out hbP)
          have HGP := Lib.hid (fun v hv => (HG3.out v hv).below hbP)
          have HAP := Lib.hid (HA3.out.below hbP HA3.out.lt)
          have HBP := Lib.hid (HB3.out.trans (hbP.mono HB3.out.size))
          have HGf : Hid (GoodM WP w.heap.size (.slice (some ⟨g8, 0, none⟩) L.length c8)) := by
            obtain ⟨L3, h1, h2, h3⟩ := HM3.out
            exact ⟨L3, (h1.base HB1.out.size).below hbP, h2, by omega⟩
          clear hbP
          go_wp2_with ((at_builtin; refine wpList_append_own _ rfl (.tmp 74) (.tmp 76) 48 rfl w.heap.size 22 i1 _ 1 24 Tryd.underlying48 hi1 hy0 hy1 hy2 rfl (by decide) mk2 (n + 1) _ rfl HOP.out ⟨gP, 0, none⟩ 1 1 [.slice (some ⟨g8, 0, none⟩) L.length c8] rfl rfl ?_ ?_ ?_ ?_ ?_ ?_); exact blk_cells HP.out; (simp [Value.oneCell']); (unfold maxLen; omega); (omega); (exact HBP.out.size); intro mk3 w4 hown4 hg4 _; have HO4 := Lib.hid hown4; have HG4 : Hid (∀ v ∈ (vs ++ [.slice A6 L.length c6]) ++ [.slice (some ⟨g8, 0, none⟩) L.length c8], GoodM w4 w.heap.size v) := (fun v hv => (List.mem_append.1 hv).elim (fun h => (HGP.out v h).types hg4 (row_blk HOP.out) (by decide)) (fun h => (List.mem_singleton.1 h) ▸ HGf.out.types hg4 (row_blk HOP.out) (by decide))); have HA4 := Lib.hid (HAP.out.grown hg4 (fun h => (own_blk_ne HOP.out HAP.out (by decide)) h.symm)); have HB4 := Lib.hid (HBP.out.grown hg4 HBP.out.size (fun b hb => own_base HOP.out hb)); clear hown4 hg4)
          go_roundw
          case rel => exact ⟨L.length + 1, by omega, by omega, by go_num, n + 1 + 1, _, HO4.out, by omega, HG4.out, HA4.out, HB4.out⟩
          case measure => simp [intOf]; omega
    · obtain rfl : k = 11 := by omega
      rw [show ((11 : Nat) : Int) = 11 from rfl]
      obtain ⟨AM, cM, hAM⟩ := own_slice HO.out
      subst hAM
      go_wp2_with (fail)
      go_loopw [2, 9] (fun lv i wa => ∃ a : Nat, a ≤ 8 ∧ i = .int .i64 a ∧ ∃ ps, ps.length ≤ 100 * a ∧ wa.ownsRow w.heap.size 24 2 lv ps.length (posC ps) ∧ (∀ p ∈ ps, p.1 ≤ 9223372036854775807 ∧ GoodM wa w.heap.size p.2) ∧ wa.ownsRow w.heap.size 22 1 (.slice AM n cM) n vs ∧ (∀ v ∈ vs, GoodM wa w.heap.size v) ∧ Blk wa gA 2 #[.int .i64 (-9223372036854775808), .int .i64 (-1), .int .i64 0, .int .i64 1, .int .i64 2, .int .i64 9223372036854775804, .int .i64 9223372036854775806, .int .i64 9223372036854775807] ∧ Below w.heap.size w wa) (fun _ i _ => 8 - (intOf i).toNat)
      case atStart => exact ⟨0, Nat.zero_le _, rfl, [], by simp, World.ownsRow_nil _ _ _ _, by simp, HO.out, HGD.out, HBA.out, HB.out⟩
      case round =>
        clear HO HGD HBA HB hlt
        obtain ⟨a, ha, rfl, ps, hpl, hpo, hpg, hmo, hmg, hbA, hB⟩ := hrel
        rename World => wa
        have HPO := Lib.hid hpo
        have HPG := Lib.hid hpg
        have HMO := Lib.hid hmo
        have HMG := Lib.hid hmg
        have HBA := Lib.hid hbA
        have HB := Lib.hid hB
        clear hpo hpg hmo hmg hbA hB
        by_cases hlt : a < 8
        · have hal : (a : Int) < 8 := by omega
          go_wp2_with (fail)
          go_loopw [2, 10] (fun lv i wb => ∃ j : Nat, j ≤ n ∧ i = .int .i64 j ∧ ∃ ps, ps.length ≤ 100 * a + j ∧ wb.ownsRow w.heap.size 24 2 lv ps.length (posC ps) ∧ (∀ p ∈ ps, p.1 ≤ 9223372036854775807 ∧ GoodM wb w.heap.size p.2) ∧ wb.ownsRow w.heap.size 22 1 (.slice AM n cM) n vs ∧ (∀ v ∈ vs, GoodM wb w.heap.size v) ∧ Blk wb gA 2 #[.int .i64 (-9223372036854775808), .int .i64 (-1), .int .i64 0, .int .i64 1, .int .i64 2, .int .i64 9223372036854775804, .int .i64 9223372036854775806, .int .i64 9223372036854775807] ∧ Below w.heap.size w wb) (fun _ i _ => n - (intOf i).toNat)
          case atStart => exact ⟨0, Nat.zero_le _, rfl, ps, by omega, HPO.out, HPG.out, HMO.out, HMG.out, HBA.out, HB.out⟩
          case round =>
            clear HPO HPG HMO HMG HBA HB hpl
            obtain ⟨j, hj, rfl, ps, hpl, hpo, hpg, hmo, hmg, hbA, hB⟩ := hrel
            rename World => wb
            have HPO := Lib.hid hpo
            have HPG := Lib.hid hpg
            have HMO := Lib.hid hmo
            have HMG := Lib.hid hmg
            have HBA := Lib.hid hbA
            have HB := Lib.hid hB
            by_cases hjn : j < n
            · have hjl : (j : Int) < (n : Int) := by omega
              obtain ⟨gM2, cM2, hvM, hcM2, u, hu, hcu⟩ := own_nth HMO.out hjn
              injection hvM with hv1 _ hv3
              subst hv1 hv3
              obtain ⟨A1, n1, c1, rfl⟩ := good_slice (HMG.out u hu)
              obtain ⟨x, hx, hxq⟩ : ∃ x : Int, wb.cell? ⟨gA, a, none⟩ = some (.int .i64 x) ∧ x ≤ 9223372036854775807 := by
                rw [HBA.out.cell]
                match a, hlt with
                | 0, _ => exact ⟨_, rfl, by decide⟩
                | 1, _ => exact ⟨_, rfl, by decide⟩
                | 2, _ => exact ⟨_, rfl, by decide⟩
                | 3, _ => exact ⟨_, rfl, by decide⟩
                | 4, _ => exact ⟨_, rfl, by decide⟩
                | 5, _ => exact ⟨_, rfl, by decide⟩
                | 6, _ => exact ⟨_, rfl, by decide⟩
                | 7, _ => exact ⟨_, rfl, by decide⟩
              skip
              clear hpo hpg hmo hmg hbA hB
              obtain ⟨AP, cp, hAP⟩ := own_slice HPO.out
              subst hAP
              have hbQ : Below wb.heap.size wb (wb.alloc (.cells #[.int .i64 x, .slice A1 n1 c1] 24)).drew := ((Below.refl _ _).alloc (Nat.le_refl _) _).drew
              have HOQ := Lib.hid (own_below HPO.out hbQ)
              have HMQ := Lib.hid (own_below HMO.out hbQ)
              have HGQ := Lib.hid (fun v hv => (HMG.out v hv).below hbQ)
              have HPQ : Hid (∀ p ∈ ps, p.1 ≤ 9223372036854775807 ∧ GoodM (wb.alloc (.cells #[.int .i64 x, .slice A1 n1 c1] 24)).drew w.heap.size p.2) := fun p hp => ⟨(HPG.out p hp).1, (HPG.out p hp).2.below hbQ⟩
              have HAQ := Lib.hid (HBA.out.below hbQ HBA.out.lt)
              have HBQ := Lib.hid (HB.out.trans (hbQ.mono HB.out.size))
              have HNQ : Hid (Blk (wb.alloc (.cells #[.int .i64 x, .slice A1 n1 c1] 24)).drew wb.heap.size 24 #[.int .i64 x, .slice A1 n1 c1]) := (blkNew rfl).drew
              have HUQ := Lib.hid ((HMG.out _ hu).below hbQ)
              have HRQ : Hid (Reads (wb.alloc (.cells #[.int .i64 x, .slice A1 n1 c1] 24)).drew (wb.heap.size + 1) 2 (some ⟨wb.heap.size, 0, none⟩) 1 [.int .i64 x, .slice A1 n1 c1]) := ⟨rfl, fun _ => ⟨_, rfl, by simp, blk_cells HNQ.out⟩⟩
              clear hbQ
              go_wp2_with (fail)
              go_region_held3 (fun w' => w'.cell? ⟨gA, a, none⟩ = some (.int .i64 x) ∧ w'.cell? ⟨gM2, j, none⟩ = some (.slice A1 n1 c1)) (first | go_keep | fail)
                (first | (rw [if_pos (by rfl)]; refine wp_append_own _ (.tmp 90) (.tmp 100) 74 rfl w.heap.size 24 i2 _ 2 32 Tryd.underlying74 hi2 hx0 hx1 hx2 rfl (by decide) _ ps.length (posC ps) rfl HOQ.out ⟨wb.heap.size, 0, none⟩ 1 1 [.int .i64 x, .slice A1 n1 c1] rfl rfl ?_ ?_ ?_ ?_ ?_ ?_; exact blk_cells HNQ.out; (simp [Value.oneCell']); (unfold maxLen; omega); (omega); (exact HBQ.out.size); intro v' w1 h2 h3 _; obtain ⟨A5, c5, h5⟩ := own_slice h2; subst h5; have HO5 := Lib.hid h2; have hg5 : ((wb.alloc (.cells #[.int .i64 x, .slice A1 n1 c1] 24)).drew).grownBy w1 (Value.slice AP ps.length cp).ownBlock := h3; have HG5 := Lib.hid hg5; have e5 : w1.cell? ⟨gA, a, none⟩ = some (.int .i64 x) := ((HAQ.out.grown HG5.out (fun h => (own_blk_ne HOQ.out HAQ.out (by decide)) h.symm)).cell a).trans ((HAQ.out.cell a).symm.trans (cell_below (((Below.refl _ _).alloc (Nat.le_refl _) _).drew) hx)); have e6 : w1.cell? ⟨gM2, j, none⟩ = some (.slice A1 n1 c1) := HG5.out.cell (cell_below (((Below.refl _ _).alloc (Nat.le_refl _) _).drew) hcu) (fun h => by obtain ⟨cm, hbm⟩ := row_blk HMQ.out gM2 rfl; exact own_blk_ne HOQ.out hbm (by decide) h.symm); clear h2 h3 hg5))
              go_wp2
              go_roundw
              case rel =>
                  refine ⟨j + 1, by omega, by go_num, ps ++ [(x, .slice A1 n1 c1)], by simp; omega, by rw [posC_snoc, List.length_append]; exact HO5.out, fun p hp => ?_, own_types HMQ.out HG5.out (row_blk HOQ.out) (by decide), fun v hv => (HGQ.out v hv).types HG5.out (row_blk HOQ.out) (by decide), HAQ.out.grown HG5.out (fun h => (own_blk_ne HOQ.out HAQ.out (by decide)) h.symm), HBQ.out.grown HG5.out HBQ.out.size (fun b hb => own_base HOQ.out hb)⟩
                  rcases List.mem_append.1 hp with h | h
                  · exact ⟨(HPQ.out p h).1, (HPQ.out p h).2.types HG5.out (row_blk HOQ.out) (by decide)⟩
                  · obtain rfl := List.mem_singleton.1 h
                    exact ⟨hxq, HUQ.out.types HG5.out (row_blk HOQ.out) (by decide)⟩
              case measure => simp [intOf]; omega
            · have hjn2 : j = n := by omega
              subst hjn2
              go_wp2_with (fail)
              go_roundw
              case rel => exact ⟨a + 1, by omega, by go_num, ps, by omega, HPO.out, HPG.out, HMO.out, HMG.out, HBA.out, HB.out⟩
              case measure => simp [intOf]; omega
        · have ha8 : a = 8 := by omega
          subst ha8
          go_wp2_with (fail)
          go_ret
          exact ⟨HB.out, _, ps, rfl, HPO.out, by omega, HPG.out⟩
end Go.Proofs.YtcgcgekefhhjhaaDoor
