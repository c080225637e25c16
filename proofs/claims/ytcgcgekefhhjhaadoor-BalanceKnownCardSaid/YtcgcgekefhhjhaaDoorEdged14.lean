/- custodylaw14's edged by a contract (printed by gen_edged14.py). -/
import Derived.Test.YtcgcgekefhhjhaaDoorSome14
namespace Go.Proofs.YtcgcgekefhhjhaaDoor
set_option linter.unusedSimpArgs false
set_option linter.unusedVariables false
open Go.RowKit

theorem pos_nth {w : World} {B : Nat} {v : Value} {ps : List (Int × Value)} (h : w.ownsRow B 24 2 v ps.length (posC ps)) {i : Nat} (hi : i < ps.length) :
    ∃ g c, v = .slice (some ⟨g, 0, none⟩) ps.length c ∧ w.cell? ⟨g, i * 2, none⟩ = some (.int .i64 ps[i].1) ∧ w.cell? ⟨g, i * 2 + 1, none⟩ = some ps[i].2 := by
  obtain ⟨g, cap, cur, rfl, _, hg, hnc, _, hcs, htk⟩ := own_row h (by omega)
  have hl := posC_len ps
  have e : ∀ (k : Nat) (ps : List (Int × Value)) (hk : k < ps.length), (posC ps)[k * 2]? = some (.int .i64 ps[k].1) ∧ (posC ps)[k * 2 + 1]? = some ps[k].2 := by
    intro k
    induction k with
    | zero => intro ps hk; cases ps with
      | nil => simp at hk
      | cons p ps => exact ⟨rfl, rfl⟩
    | succ k ih => intro ps hk; cases ps with
      | nil => simp at hk
      | cons p ps =>
        have h2 := ih ps (by simpa using hk)
        have e1 : (k + 1) * 2 = k * 2 + 1 + 1 := by omega
        rw [e1]
        simpa [posC] using h2
  obtain ⟨e0, e1⟩ := e i ps hi
  refine ⟨g, cap, rfl, ?_, ?_⟩
  · rw [← htk, List.getElem?_take] at e0
    rw [hg.cell]
    split at e0
    · simpa using e0
    · cases e0
  · rw [← htk, List.getElem?_take] at e1
    rw [hg.cell]
    split at e1
    · simpa using e1
    · cases e1
theorem good_pos {W : World} {B : Nat} {v : Value} {a : Int} (h : GoodM W B v) (ha : a ≤ 9223372036854775807) : ∃ L A c, v = .slice A L.length c ∧ PosOK W W.heap.size a L A := by
  obtain ⟨L, h1, h2, h3⟩ := h
  obtain ⟨A, c, rfl⟩ := own_slice h1
  exact ⟨L, A, c, rfl, Reads.of_own h1, ha, h2, by omega⟩
theorem nth_int {W : World} {g n : Nat} {t : TypeId} {xs : List Int} {cs : Array Value} (h : Blk W g t cs) (hc : cs.toList = xs.map (Value.int .i64)) (hm : ∀ x ∈ xs, x ≤ 9223372036854775807) (hn : xs.length = n) {k : Nat} (hk : k < n) : ∃ x : Int, W.cell? ⟨g, k, none⟩ = some (.int .i64 x) ∧ x ≤ 9223372036854775807 := by
  subst hn
  refine ⟨xs[k], ?_, hm _ (by simp)⟩
  rw [h.cell, ← Array.getElem?_toList, hc]
  simp [hk]

set_option maxRecDepth 100000 in
set_option maxHeartbeats 4000000 in
theorem edged_calls (w : World) (hG : HG w) : Calls Tryd.prog 32 #[] w fun e w' => e = .returned (.bool true) ∧ Below w.heap.size w w' := by
  have HG_0 := Lib.hid (hG)
  have HB_0 := Lib.hid (Below.refl w.heap.size w)
  clear hG
  go_enter Tryd.func32, Tryd.ntmps32
  go_wp2_with (fail)
  refine (some_calls w).mono ?_
  rintro e w1 ⟨hb1, v, ps, rfl, hpo, hpl, hpg⟩
  obtain ⟨AP, cp, hAP⟩ := own_slice hpo
  subst hAP
  have HG_1 := Lib.hid (HG_0.out.below hb1)
  have HB_1 := Lib.hid (HB_0.out.trans (hb1.mono HB_0.out.size))
  clear hb1
  have O_1 := Lib.hid (hpo)
  have HPL := Lib.hid hpl
  have HPG := Lib.hid hpg
  have hpl2 := hpl
  clear hpo hpl hpg
  obtain ⟨gQ, hgQ⟩ : ∃ g, w1.heap.size = g := ⟨_, rfl⟩
  obtain ⟨W2, hW2⟩ : ∃ X, w1.alloc (.cells #[.int .i64 (-9223372036854775808), .int .i64 (-1), .int .i64 0, .int .i64 1, .int .i64 2, .int .i64 3, .int .i64 4, .int .i64 5, .int .i64 9223372036854775804, .int .i64 9223372036854775805, .int .i64 9223372036854775806, .int .i64 9223372036854775807] 2) = X := ⟨_, rfl⟩
  have hbW2 : Below w1.heap.size w1 W2 := hW2 ▸ (Below.refl _ _).alloc (Nat.le_refl _) _
  have hnQ : Blk W2 gQ 2 #[.int .i64 (-9223372036854775808), .int .i64 (-1), .int .i64 0, .int .i64 1, .int .i64 2, .int .i64 3, .int .i64 4, .int .i64 5, .int .i64 9223372036854775804, .int .i64 9223372036854775805, .int .i64 9223372036854775806, .int .i64 9223372036854775807] := by rw [← hW2]; exact blkNew hgQ
  have HG_2 := Lib.hid (HG_1.out.below hbW2)
  have HB_2 := Lib.hid (HB_1.out.trans (hbW2.mono HB_1.out.size))
  have O_2 := Lib.hid (own_below O_1.out hbW2)
  have PQ_2 := Lib.hid (hnQ)
  clear hbW2 hnQ
  obtain ⟨gN, hgN⟩ : ∃ g, W2.heap.size = g := ⟨_, rfl⟩
  obtain ⟨W3, hW3⟩ : ∃ X, W2.alloc (.cells #[.int .i64 (-1), .int .i64 0, .int .i64 1, .int .i64 6, .int .i64 7, .int .i64 8, .int .i64 9, .int .i64 10, .int .i64 65536, .int .i64 65537] 3) = X := ⟨_, rfl⟩
  have hbW3 : Below W2.heap.size W2 W3 := hW3 ▸ (Below.refl _ _).alloc (Nat.le_refl _) _
  have hnN : Blk W3 gN 3 #[.int .i64 (-1), .int .i64 0, .int .i64 1, .int .i64 6, .int .i64 7, .int .i64 8, .int .i64 9, .int .i64 10, .int .i64 65536, .int .i64 65537] := by rw [← hW3]; exact blkNew hgN
  have HG_3 := Lib.hid (HG_2.out.below hbW3)
  have HB_3 := Lib.hid (HB_2.out.trans (hbW3.mono HB_2.out.size))
  have O_3 := Lib.hid (own_below O_2.out hbW3)
  have PQ_3 := Lib.hid (PQ_2.out.below hbW3 PQ_2.out.lt)
  have PN_3 := Lib.hid (hnN)
  clear hbW3 hnN
  skip
  skip
  have HPGW : Hid (∀ p ∈ ps, p.1 ≤ 9223372036854775807 ∧ GoodM W3 w.heap.size p.2) := by
    intro p hp
    refine ⟨(HPG.out p hp).1, ?_⟩
    rw [← hW3, ← hW2]
    exact ((HPG.out p hp).2.below ((Below.refl _ _).alloc (Nat.le_refl _) _)).below ((Below.refl _ _).alloc (Nat.le_refl _) _)
  go_wp2_with (fail)
  clear hW2 hgQ hW3 hgN
  clear HPG
  go_loopw [5] (fun i wi => ∃ k : Nat, k ≤ ps.length ∧ i = .int .i64 k ∧ Below W3.heap.size W3 wi) (fun i _ => ps.length - (intOf i).toNat)
  case atStart => exact ⟨0, Nat.zero_le _, rfl, Below.refl _ _⟩
  case round =>
    obtain ⟨i, hi, rfl, hbrwi⟩ := hrel
    rename World => wi
    have HBRwi := Lib.hid hbrwi
    have HG_4 := Lib.hid (HG_3.out.below hbrwi)
    have HB_4 := Lib.hid (HB_3.out.trans (hbrwi.mono HB_3.out.size))
    have O_4 := Lib.hid (own_below O_3.out hbrwi)
    have PQ_4 := Lib.hid (PQ_3.out.below hbrwi PQ_3.out.lt)
    have PN_4 := Lib.hid (PN_3.out.below hbrwi PN_3.out.lt)
    clear hbrwi
    by_cases hlt : i < ps.length
    · have hil : (i : Int) < (ps.length : Int) := by omega
      obtain ⟨i2, hi2⟩ : ∃ z, (i + 1) % ps.length = z := ⟨_, rfl⟩
      have hi2l : i2 < ps.length := by rw [← hi2]; exact Nat.mod_lt _ (by omega)
      have hi2i : (i2 : Int) < (ps.length : Int) := by omega
      have hn0 : ¬ ((ps.length : Int) = 0) := by omega
      have hpne : ¬ ps = [] := by intro h; subst h; exact Nat.not_lt_zero _ hlt
      have hrem : ((i : Int) + 1).tmod (ps.length : Int) = (i2 : Int) := by rw [← hi2]; rfl
      have hw1 : IntKind.i64.wrap ((i : Int) + 1) = (i : Int) + 1 := IntWalk.i64_in _ (by omega)
      obtain ⟨g, c0, hv0, x0, x1⟩ := pos_nth O_4.out hlt
      obtain ⟨g', c0', hv1, y0, y1⟩ := pos_nth O_4.out hi2l
      rw [hv0] at hv1
      injection hv1 with hv1 _ hvc
      injection hv1 with hv1
      injection hv1 with hv1 _ _
      subst hv1
      subst hvc
      injection hv0 with hv2 _ hv3
      subst hv2 hv3
      obtain ⟨h1q, h1g⟩ := HPGW.out ps[i] (by simp)
      obtain ⟨h2q, h2g⟩ := HPGW.out ps[i2] (by simp)
      obtain ⟨L1, A1, c1, he1, hP1⟩ := good_pos (h1g.below HBRwi.out) h1q
      obtain ⟨L2, A2, c2, he2, hP2⟩ := good_pos (h2g.below HBRwi.out) h2q
      rw [he1] at x1
      rw [he2] at y1
      obtain ⟨a1, ha1⟩ : ∃ z, ps[i].1 = z := ⟨_, rfl⟩
      obtain ⟨a2, ha2⟩ : ∃ z, ps[i2].1 = z := ⟨_, rfl⟩
      rw [ha1] at x0 hP1
      rw [ha2] at y0 hP2
      have X0 := Lib.hid x0
      have X1 := Lib.hid x1
      have Y0 := Lib.hid y0
      have Y1 := Lib.hid y1
      have P1 := Lib.hid hP1
      have P2 := Lib.hid hP2
      clear x0 x1 y0 y1 hP1 hP2 h1q h1g h2q h2g he1 he2 ha1 ha2 hi2
      go_wp2_with (fail)
      go_loopw [6] (fun i wn => ∃ k : Nat, k ≤ 10 ∧ i = .int .i64 k ∧ Below wi.heap.size wi wn) (fun i _ => 10 - (intOf i).toNat)
      case atStart => exact ⟨0, Nat.zero_le _, rfl, Below.refl _ _⟩
      case round =>
        obtain ⟨kn, hkn, rfl, hbrwn⟩ := hrel
        rename World => wn
        have HBRwn := Lib.hid hbrwn
        have HG_5 := Lib.hid (HG_4.out.below hbrwn)
        have HB_5 := Lib.hid (HB_4.out.trans (hbrwn.mono HB_4.out.size))
        have O_5 := Lib.hid (own_below O_4.out hbrwn)
        have PQ_5 := Lib.hid (PQ_4.out.below hbrwn PQ_4.out.lt)
        have PN_5 := Lib.hid (PN_4.out.below hbrwn PN_4.out.lt)
        clear hbrwn
        by_cases hltn : kn < 10
        · have hknl : (kn : Int) < 10 := by omega
          obtain ⟨nm, hnm, _⟩ := nth_int (xs := [(-1), 0, 1, 6, 7, 8, 9, 10, 65536, 65537]) PN_5.out rfl (by intro x hx; simp at hx; omega) rfl hltn
          have x0 := cell_below HBRwn.out X0.out
          have x1 := cell_below HBRwn.out X1.out
          have y0 := cell_below HBRwn.out Y0.out
          have y1 := cell_below HBRwn.out Y1.out
          have Q1 := Lib.hid (P1.out.below HBRwn.out)
          have Q2 := Lib.hid (P2.out.below HBRwn.out)
          have QB : Hid (wi.heap.size ≤ wn.heap.size) := HBRwn.out.size
          go_wp2_with (fail)
          refine wp_region_class (InB wn) (by kernel_rfl) (by kernel_rfl) (InB.start _) ?_
          refine BigFrame.wpQuiet_want (by rfl) (fun K hK => ?_)
          refine quiet_value (.slice (some ⟨g, 0, none⟩) ps.length cp) (fun W hW => ?_) (hK _ ?_)
          · clear hK
            clear hW
            go_simp
          clear hK K
          simp only [Act.put, List.setIfInBounds_toArray, List.set_cons_zero, List.set_cons_succ]
          refine BigFrame.wpQuiet_want (by rfl) (fun K hK => ?_)
          refine quiet_value (.int .i64 i) (fun W hW => ?_) (hK _ ?_)
          · clear hK
            clear hW
            go_simp
          clear hK K
          simp only [Act.put, List.setIfInBounds_toArray, List.set_cons_zero, List.set_cons_succ]
          refine BigFrame.wpQuiet_want (by rfl) (fun K hK => ?_)
          refine quiet_value (.pointer (some ⟨g, i * 2, none⟩)) (fun W hW => ?_) (hK _ ?_)
          · clear hK
            clear hW
            go_simp
          clear hK K
          simp only [Act.put, List.setIfInBounds_toArray, List.set_cons_zero, List.set_cons_succ]
          refine BigFrame.wpQuiet_want (by rfl) (fun K hK => ?_)
          refine quiet_value (.agg #[.int .i64 a1, .slice A1 L1.length c1]) (fun W hW => ?_) (hK _ ?_)
          · clear hK
            have q0 := hW.cell x0
            have q1 := hW.cell x1
            clear hW
            go_simp
          clear hK K
          simp only [Act.put, List.setIfInBounds_toArray, List.set_cons_zero, List.set_cons_succ]
          refine BigFrame.wpQuiet_want (by rfl) (fun K hK => ?_)
          refine quiet_value (.slice (some ⟨gN, 0, none⟩) 10 10) (fun W hW => ?_) (hK _ ?_)
          · clear hK
            clear hW
            go_simp
          clear hK K
          simp only [Act.put, List.setIfInBounds_toArray, List.set_cons_zero, List.set_cons_succ]
          refine BigFrame.wpQuiet_want (by rfl) (fun K hK => ?_)
          refine quiet_value (.int .i64 kn) (fun W hW => ?_) (hK _ ?_)
          · clear hK
            clear hW
            go_simp
          clear hK K
          simp only [Act.put, List.setIfInBounds_toArray, List.set_cons_zero, List.set_cons_succ]
          refine BigFrame.wpQuiet_want (by rfl) (fun K hK => ?_)
          refine quiet_value (.pointer (some ⟨gN, kn, none⟩)) (fun W hW => ?_) (hK _ ?_)
          · clear hK
            clear hW
            go_simp
          clear hK K
          simp only [Act.put, List.setIfInBounds_toArray, List.set_cons_zero, List.set_cons_succ]
          refine BigFrame.wpQuiet_want (by rfl) (fun K hK => ?_)
          refine quiet_value (.int .i64 nm) (fun W hW => ?_) (hK _ ?_)
          · clear hK
            have q0 := hW.cell hnm
            clear hW
            go_simp
          clear hK K
          simp only [Act.put, List.setIfInBounds_toArray, List.set_cons_zero, List.set_cons_succ]
          refine BigFrame.wpQuiet_want (by rfl) (fun K hK => ?_)
          refine quiet_call 4 #[.agg #[.int .i64 a1, .slice A1 L1.length c1], .int .i64 nm] (.bool true) (fun W => ?_) (fun W hW => ?_) (hK _ ?_)
          · clear hK
            go_simp
          · refine (lawChecks_calls a1 L1 A1 c1 wi.heap.size nm W (Q1.out.below (hW.mono QB.out)) (Nat.le_trans QB.out hW.size) (HG_5.out.below hW)).mono ?_
            rintro e w' ⟨rfl, hb⟩
            exact ⟨rfl, hW.trans hb⟩
          clear hK K
          simp only [Act.put, List.setIfInBounds_toArray, List.set_cons_zero, List.set_cons_succ]
          refine BigFrame.wpQuiet_want (by rfl) (fun K hK => ?_)
          refine quiet_value (.bool false) (fun W hW => ?_) (hK _ ?_)
          · clear hK
            clear hW
            go_simp
          clear hK K
          simp only [Act.put, List.setIfInBounds_toArray, List.set_cons_zero, List.set_cons_succ]
          refine BigFrame.wpQuiet_want (by rfl) (fun K hK => ?_)
          refine quiet_value (.bool false) (fun W hW => ?_) (hK _ ?_)
          · clear hK
            clear hW
            go_simp
          clear hK K
          simp only [Act.put, List.setIfInBounds_toArray, List.set_cons_zero, List.set_cons_succ]
          refine BigFrame.wpQuiet_want (by rfl) (fun K hK => ?_)
          refine quiet_value (.slice (some ⟨g, 0, none⟩) ps.length cp) (fun W hW => ?_) (hK _ ?_)
          · clear hK
            clear hW
            go_simp
          clear hK K
          simp only [Act.put, List.setIfInBounds_toArray, List.set_cons_zero, List.set_cons_succ]
          refine BigFrame.wpQuiet_want (by rfl) (fun K hK => ?_)
          refine quiet_value (.int .i64 i) (fun W hW => ?_) (hK _ ?_)
          · clear hK
            clear hW
            go_simp
          clear hK K
          simp only [Act.put, List.setIfInBounds_toArray, List.set_cons_zero, List.set_cons_succ]
          refine BigFrame.wpQuiet_want (by rfl) (fun K hK => ?_)
          refine quiet_value (.pointer (some ⟨g, i * 2, none⟩)) (fun W hW => ?_) (hK _ ?_)
          · clear hK
            clear hW
            go_simp
          clear hK K
          simp only [Act.put, List.setIfInBounds_toArray, List.set_cons_zero, List.set_cons_succ]
          refine BigFrame.wpQuiet_want (by rfl) (fun K hK => ?_)
          refine quiet_value (.agg #[.int .i64 a1, .slice A1 L1.length c1]) (fun W hW => ?_) (hK _ ?_)
          · clear hK
            have q0 := hW.cell x0
            have q1 := hW.cell x1
            clear hW
            go_simp
          clear hK K
          simp only [Act.put, List.setIfInBounds_toArray, List.set_cons_zero, List.set_cons_succ]
          refine BigFrame.wpQuiet_want (by rfl) (fun K hK => ?_)
          refine quiet_value (.slice (some ⟨g, 0, none⟩) ps.length cp) (fun W hW => ?_) (hK _ ?_)
          · clear hK
            clear hW
            go_simp
          clear hK K
          simp only [Act.put, List.setIfInBounds_toArray, List.set_cons_zero, List.set_cons_succ]
          refine BigFrame.wpQuiet_want (by rfl) (fun K hK => ?_)
          refine quiet_value (.int .i64 i) (fun W hW => ?_) (hK _ ?_)
          · clear hK
            clear hW
            go_simp
          clear hK K
          simp only [Act.put, List.setIfInBounds_toArray, List.set_cons_zero, List.set_cons_succ]
          refine BigFrame.wpQuiet_want (by rfl) (fun K hK => ?_)
          refine quiet_value (.int .i64 ((i : Int) + 1)) (fun W hW => ?_) (hK _ ?_)
          · clear hK
            clear hW
            go_simp
          clear hK K
          simp only [Act.put, List.setIfInBounds_toArray, List.set_cons_zero, List.set_cons_succ]
          refine BigFrame.wpQuiet_want (by rfl) (fun K hK => ?_)
          refine quiet_value (.slice (some ⟨g, 0, none⟩) ps.length cp) (fun W hW => ?_) (hK _ ?_)
          · clear hK
            clear hW
            go_simp
          clear hK K
          simp only [Act.put, List.setIfInBounds_toArray, List.set_cons_zero, List.set_cons_succ]
          refine BigFrame.wpQuiet_want (by rfl) (fun K hK => ?_)
          refine quiet_value (.int .i64 (ps.length : Int)) (fun W hW => ?_) (hK _ ?_)
          · clear hK
            clear hW
            go_simp
          clear hK K
          simp only [Act.put, List.setIfInBounds_toArray, List.set_cons_zero, List.set_cons_succ]
          refine BigFrame.wpQuiet_want (by rfl) (fun K hK => ?_)
          refine quiet_value (.int .i64 (i2 : Int)) (fun W hW => ?_) (hK _ ?_)
          · clear hK
            clear hW
            go_simp
          clear hK K
          simp only [Act.put, List.setIfInBounds_toArray, List.set_cons_zero, List.set_cons_succ]
          refine BigFrame.wpQuiet_want (by rfl) (fun K hK => ?_)
          refine quiet_value (.pointer (some ⟨g, i2 * 2, none⟩)) (fun W hW => ?_) (hK _ ?_)
          · clear hK
            clear hW
            go_simp
          clear hK K
          simp only [Act.put, List.setIfInBounds_toArray, List.set_cons_zero, List.set_cons_succ]
          refine BigFrame.wpQuiet_want (by rfl) (fun K hK => ?_)
          refine quiet_value (.agg #[.int .i64 a2, .slice A2 L2.length c2]) (fun W hW => ?_) (hK _ ?_)
          · clear hK
            have q0 := hW.cell y0
            have q1 := hW.cell y1
            clear hW
            go_simp
          clear hK K
          simp only [Act.put, List.setIfInBounds_toArray, List.set_cons_zero, List.set_cons_succ]
          refine BigFrame.wpQuiet_want (by rfl) (fun K hK => ?_)
          refine quiet_call 3 #[.agg #[.int .i64 a1, .slice A1 L1.length c1], .agg #[.int .i64 a2, .slice A2 L2.length c2]] (.bool true) (fun W => ?_) (fun W hW => ?_) (hK _ ?_)
          · clear hK
            go_simp
          · refine (lawSame_calls a1 a2 L1 L2 A1 A2 c1 c2 wi.heap.size W (Q1.out.below (hW.mono QB.out)) (Q2.out.below (hW.mono QB.out)) (Nat.le_trans QB.out hW.size) (HG_5.out.below hW)).mono ?_
            rintro e w' ⟨rfl, hb⟩
            exact ⟨rfl, hW.trans hb⟩
          clear hK K
          simp only [Act.put, List.setIfInBounds_toArray, List.set_cons_zero, List.set_cons_succ]
          refine BigFrame.wpQuiet_want (by rfl) (fun K hK => ?_)
          refine quiet_value (.bool false) (fun W hW => ?_) (hK _ ?_)
          · clear hK
            clear hW
            go_simp
          clear hK K
          simp only [Act.put, List.setIfInBounds_toArray, List.set_cons_zero, List.set_cons_succ]
          refine BigFrame.wpQuiet_want (by rfl) (fun K hK => ?_)
          refine quiet_value (.bool false) (fun W hW => ?_) (hK _ ?_)
          · clear hK
            clear hW
            go_simp
          clear hK K
          simp only [Act.put, List.setIfInBounds_toArray, List.set_cons_zero, List.set_cons_succ]
          refine wpQuiet_nil ?_
          intro WR hiWR
          clear x0 x1 y0 y1 hnm
          have HG_6 := Lib.hid (HG_5.out.below hiWR)
          have HB_6 := Lib.hid (HB_5.out.trans (hiWR.mono HB_5.out.size))
          have O_6 := Lib.hid (own_below O_5.out hiWR)
          have PQ_6 := Lib.hid (PQ_5.out.below hiWR PQ_5.out.lt)
          have PN_6 := Lib.hid (PN_5.out.below hiWR PN_5.out.lt)
          have HIR : Hid (Below wn.heap.size wn WR) := hiWR
          clear hiWR
          go_wp2_with (fail)
          go_loopw [7] (fun i wq => ∃ k : Nat, k ≤ 12 ∧ i = .int .i64 k ∧ Below WR.heap.size WR wq) (fun i _ => 12 - (intOf i).toNat)
          case atStart => exact ⟨0, Nat.zero_le _, rfl, Below.refl _ _⟩
          case round =>
            obtain ⟨kq, hkq, rfl, hbrwq⟩ := hrel
            rename World => wq
            have HBRwq := Lib.hid hbrwq
            have HG_7 := Lib.hid (HG_6.out.below hbrwq)
            have HB_7 := Lib.hid (HB_6.out.trans (hbrwq.mono HB_6.out.size))
            have O_7 := Lib.hid (own_below O_6.out hbrwq)
            have PQ_7 := Lib.hid (PQ_6.out.below hbrwq PQ_6.out.lt)
            have PN_7 := Lib.hid (PN_6.out.below hbrwq PN_6.out.lt)
            clear hbrwq
            by_cases hltq : kq < 12
            · have hkql : (kq : Int) < 12 := by omega
              go_wp2_with (fail)
              go_loopw [8] (fun i wk => ∃ k : Nat, k ≤ 4 ∧ i = .int .i64 k ∧ Below wq.heap.size wq wk) (fun i _ => 4 - (intOf i).toNat)
              case atStart => exact ⟨0, Nat.zero_le _, rfl, Below.refl _ _⟩
              case round =>
                obtain ⟨kk, hkk, rfl, hbrwk⟩ := hrel
                rename World => wk
                have HBRwk := Lib.hid hbrwk
                have HG_8 := Lib.hid (HG_7.out.below hbrwk)
                have HB_8 := Lib.hid (HB_7.out.trans (hbrwk.mono HB_7.out.size))
                have O_8 := Lib.hid (own_below O_7.out hbrwk)
                have PQ_8 := Lib.hid (PQ_7.out.below hbrwk PQ_7.out.lt)
                have PN_8 := Lib.hid (PN_7.out.below hbrwk PN_7.out.lt)
                clear hbrwk
                by_cases hltk : kk < 4
                · have hkkl : (kk : Int) < 4 := by omega
                  obtain ⟨nm, hnm, _⟩ := nth_int (xs := [(-1), 0, 1, 6, 7, 8, 9, 10, 65536, 65537]) PN_8.out rfl (by intro x hx; simp at hx; omega) rfl hltn
                  obtain ⟨qt, hqt, hqm⟩ := nth_int (xs := [(-9223372036854775808), (-1), 0, 1, 2, 3, 4, 5, 9223372036854775804, 9223372036854775805, 9223372036854775806, 9223372036854775807]) PQ_8.out rfl (by intro x hx; simp at hx; omega) rfl hltq
                  have HBK : Hid (Below wi.heap.size wi wk) := HBRwn.out.trans ((HIR.out.trans ((HBRwq.out.trans (HBRwk.out.mono HBRwq.out.size)).mono HIR.out.size)).mono HBRwn.out.size)
                  have x0 := cell_below HBK.out X0.out
                  have x1 := cell_below HBK.out X1.out
                  have Q1 := Lib.hid (P1.out.below HBK.out)
                  have QB : Hid (wi.heap.size ≤ wk.heap.size) := HBK.out.size
                  go_wp2_with (fail)
                  refine wp_region_class (InB wk) (by kernel_rfl) (by kernel_rfl) (InB.start _) ?_
                  refine BigFrame.wpQuiet_want (by rfl) (fun K hK => ?_)
                  refine quiet_value (.slice (some ⟨g, 0, none⟩) ps.length cp) (fun W hW => ?_) (hK _ ?_)
                  · clear hK
                    clear hW
                    go_simp
                  clear hK K
                  simp only [Act.put, List.setIfInBounds_toArray, List.set_cons_zero, List.set_cons_succ]
                  refine BigFrame.wpQuiet_want (by rfl) (fun K hK => ?_)
                  refine quiet_value (.int .i64 i) (fun W hW => ?_) (hK _ ?_)
                  · clear hK
                    clear hW
                    go_simp
                  clear hK K
                  simp only [Act.put, List.setIfInBounds_toArray, List.set_cons_zero, List.set_cons_succ]
                  refine BigFrame.wpQuiet_want (by rfl) (fun K hK => ?_)
                  refine quiet_value (.pointer (some ⟨g, i * 2, none⟩)) (fun W hW => ?_) (hK _ ?_)
                  · clear hK
                    clear hW
                    go_simp
                  clear hK K
                  simp only [Act.put, List.setIfInBounds_toArray, List.set_cons_zero, List.set_cons_succ]
                  refine BigFrame.wpQuiet_want (by rfl) (fun K hK => ?_)
                  refine quiet_value (.agg #[.int .i64 a1, .slice A1 L1.length c1]) (fun W hW => ?_) (hK _ ?_)
                  · clear hK
                    have q0 := hW.cell x0
                    have q1 := hW.cell x1
                    clear hW
                    go_simp
                  clear hK K
                  simp only [Act.put, List.setIfInBounds_toArray, List.set_cons_zero, List.set_cons_succ]
                  refine BigFrame.wpQuiet_want (by rfl) (fun K hK => ?_)
                  refine quiet_value (.int .i64 kk) (fun W hW => ?_) (hK _ ?_)
                  · clear hK
                    clear hW
                    go_simp
                  clear hK K
                  simp only [Act.put, List.setIfInBounds_toArray, List.set_cons_zero, List.set_cons_succ]
                  refine BigFrame.wpQuiet_want (by rfl) (fun K hK => ?_)
                  refine quiet_value (.slice (some ⟨gQ, 0, none⟩) 12 12) (fun W hW => ?_) (hK _ ?_)
                  · clear hK
                    clear hW
                    go_simp
                  clear hK K
                  simp only [Act.put, List.setIfInBounds_toArray, List.set_cons_zero, List.set_cons_succ]
                  refine BigFrame.wpQuiet_want (by rfl) (fun K hK => ?_)
                  refine quiet_value (.int .i64 kq) (fun W hW => ?_) (hK _ ?_)
                  · clear hK
                    clear hW
                    go_simp
                  clear hK K
                  simp only [Act.put, List.setIfInBounds_toArray, List.set_cons_zero, List.set_cons_succ]
                  refine BigFrame.wpQuiet_want (by rfl) (fun K hK => ?_)
                  refine quiet_value (.pointer (some ⟨gQ, kq, none⟩)) (fun W hW => ?_) (hK _ ?_)
                  · clear hK
                    clear hW
                    go_simp
                  clear hK K
                  simp only [Act.put, List.setIfInBounds_toArray, List.set_cons_zero, List.set_cons_succ]
                  refine BigFrame.wpQuiet_want (by rfl) (fun K hK => ?_)
                  refine quiet_value (.int .i64 qt) (fun W hW => ?_) (hK _ ?_)
                  · clear hK
                    have q0 := hW.cell hqt
                    clear hW
                    go_simp
                  clear hK K
                  simp only [Act.put, List.setIfInBounds_toArray, List.set_cons_zero, List.set_cons_succ]
                  refine BigFrame.wpQuiet_want (by rfl) (fun K hK => ?_)
                  refine quiet_value (.slice (some ⟨gN, 0, none⟩) 10 10) (fun W hW => ?_) (hK _ ?_)
                  · clear hK
                    clear hW
                    go_simp
                  clear hK K
                  simp only [Act.put, List.setIfInBounds_toArray, List.set_cons_zero, List.set_cons_succ]
                  refine BigFrame.wpQuiet_want (by rfl) (fun K hK => ?_)
                  refine quiet_value (.int .i64 kn) (fun W hW => ?_) (hK _ ?_)
                  · clear hK
                    clear hW
                    go_simp
                  clear hK K
                  simp only [Act.put, List.setIfInBounds_toArray, List.set_cons_zero, List.set_cons_succ]
                  refine BigFrame.wpQuiet_want (by rfl) (fun K hK => ?_)
                  refine quiet_value (.pointer (some ⟨gN, kn, none⟩)) (fun W hW => ?_) (hK _ ?_)
                  · clear hK
                    clear hW
                    go_simp
                  clear hK K
                  simp only [Act.put, List.setIfInBounds_toArray, List.set_cons_zero, List.set_cons_succ]
                  refine BigFrame.wpQuiet_want (by rfl) (fun K hK => ?_)
                  refine quiet_value (.int .i64 nm) (fun W hW => ?_) (hK _ ?_)
                  · clear hK
                    have q0 := hW.cell hnm
                    clear hW
                    go_simp
                  clear hK K
                  simp only [Act.put, List.setIfInBounds_toArray, List.set_cons_zero, List.set_cons_succ]
                  refine BigFrame.wpQuiet_want (by rfl) (fun K hK => ?_)
                  refine quiet_value (.agg #[.int .i64 kk, .int .i64 qt, .int .i64 nm]) (fun W hW => ?_) (hK _ ?_)
                  · clear hK
                    clear hW
                    go_simp
                  clear hK K
                  simp only [Act.put, List.setIfInBounds_toArray, List.set_cons_zero, List.set_cons_succ]
                  refine BigFrame.wpQuiet_want (by rfl) (fun K hK => ?_)
                  refine quiet_call 6 #[.agg #[.int .i64 a1, .slice A1 L1.length c1], .agg #[.int .i64 kk, .int .i64 qt, .int .i64 nm]] (.bool true) (fun W => ?_) (fun W hW => ?_) (hK _ ?_)
                  · clear hK
                    go_simp
                  · refine (lawMoves_calls a1 L1 A1 c1 wi.heap.size kk qt nm W (Q1.out.below (hW.mono QB.out)) (Nat.le_trans QB.out hW.size) (HG_8.out.below hW) hqm).mono ?_
                    rintro e w' ⟨rfl, hb⟩
                    exact ⟨rfl, hW.trans hb⟩
                  clear hK K
                  simp only [Act.put, List.setIfInBounds_toArray, List.set_cons_zero, List.set_cons_succ]
                  refine BigFrame.wpQuiet_want (by rfl) (fun K hK => ?_)
                  refine quiet_value (.bool false) (fun W hW => ?_) (hK _ ?_)
                  · clear hK
                    clear hW
                    go_simp
                  clear hK K
                  simp only [Act.put, List.setIfInBounds_toArray, List.set_cons_zero, List.set_cons_succ]
                  refine wpQuiet_nil ?_
                  intro WV hiWV
                  have HZ := Lib.hid (HBRwk.out.trans (hiWV.mono HBRwk.out.size))
                  clear hiWV x0 x1 hnm hqt
                  go_wp2_with (fail)
                  go_roundw
                  case rel => exact ⟨kk + 1, by omega, by go_num, HZ.out⟩
                  case measure => simp [intOf]; omega
                · obtain rfl : kk = 4 := by omega
                  rw [show ((4 : Nat) : Int) = 4 from rfl]
                  have HZ := Lib.hid (HBRwq.out.trans (HBRwk.out.mono HBRwq.out.size))
                  go_wp2_with (fail)
                  go_roundw
                  case rel => exact ⟨kq + 1, by omega, by go_num, HZ.out⟩
                  case measure => simp [intOf]; omega
            · obtain rfl : kq = 12 := by omega
              rw [show ((12 : Nat) : Int) = 12 from rfl]
              have HZ := Lib.hid (HBRwn.out.trans ((HIR.out.trans (HBRwq.out.mono HIR.out.size)).mono HBRwn.out.size))
              go_wp2_with (fail)
              go_roundw
              case rel => exact ⟨kn + 1, by omega, by go_num, HZ.out⟩
              case measure => simp [intOf]; omega
        · obtain rfl : kn = 10 := by omega
          rw [show ((10 : Nat) : Int) = 10 from rfl]
          have HZ := Lib.hid (HBRwi.out.trans (HBRwn.out.mono HBRwi.out.size))
          go_wp2_with (fail)
          go_roundw
          case rel => exact ⟨i + 1, by omega, by go_num, HZ.out⟩
          case measure => simp [intOf]; omega
    · obtain rfl : i = ps.length := by omega
      go_wp2_with (fail)
      go_ret
      exact ⟨rfl, HB_4.out⟩
end Go.Proofs.YtcgcgekefhhjhaaDoor
