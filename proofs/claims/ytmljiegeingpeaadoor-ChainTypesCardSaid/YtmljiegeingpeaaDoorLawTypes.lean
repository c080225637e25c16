/- Law ChainTypes by a contract (printed by gen_types10.py). -/
import Derived.Test.YtmljiegeingpeaaDoorTypes10
namespace Go.Proofs.YtmljiegeingpeaaDoor
set_option linter.unusedSimpArgs false
set_option linter.unusedVariables false
open Go.RowKit

theorem ab_ne {w : World} {pa pb : Nat} {sa sb : Value} {La : List CI.VerS} {Lb : List CT.VerS} (ha : CI.Chn w pa sa La) (hb : CT.Chn w pb sb Lb) : ∀ i, OfC pb sb i → ¬ OfC pa sa i := by
  rintro i (rfl | hi) (h | h)
  · exact Blk.ne_ hb.blk ha.blk (by decide) h
  · exact own_blk_ne ha.row hb.blk (by decide) h
  · subst h; exact own_blk_ne hb.row ha.blk (by decide) hi
  · exact own_own_ne hb.row ha.row (by decide) hi h
theorem ra_ne {w : World} {pa : Nat} {sa rv : Value} {La : List CI.VerS} {L : List VerS} (ha : CI.Chn w pa sa La) (hr : RowR w rv L) : ∀ b, rv.ownBlock = some b → ¬ OfC pa sa b := by
  rintro b hi (h | h)
  · subst h; exact own_blk_ne hr ha.blk (by decide) hi
  · exact own_own_ne hr ha.row (by decide) hi h
theorem rb_ne {w : World} {pb : Nat} {sb rv : Value} {Lb : List CT.VerS} {L : List VerS} (hb : CT.Chn w pb sb Lb) (hr : RowR w rv L) : ∀ b, rv.ownBlock = some b → ¬ OfC pb sb b := by
  rintro b hi (h | h)
  · subst h; exact own_blk_ne hr hb.blk (by decide) hi
  · exact own_own_ne hr hb.row (by decide) hi h
theorem blkA_ne {w : World} {pa g : Nat} {sa : Value} {La : List CI.VerS} {t : TypeId} {cs : Array Value} (ha : CI.Chn w pa sa La) (hg : Blk w g t cs) (h1 : t ≠ 83) (h2 : 91 ≠ t) : ¬ OfC pa sa g := by
  rintro (h | h)
  · exact Blk.ne_ hg ha.blk h1 h
  · exact own_blk_ne ha.row hg h2 h
theorem blkB_ne {w : World} {pb g : Nat} {sb : Value} {Lb : List CT.VerS} {t : TypeId} {cs : Array Value} (hb : CT.Chn w pb sb Lb) (hg : Blk w g t cs) (h1 : t ≠ 86) (h2 : 93 ≠ t) : ¬ OfC pb sb g := by
  rintro (h | h)
  · exact Blk.ne_ hg hb.blk h1 h
  · exact own_blk_ne hb.row hg h2 h
theorem fa_next {w : World} {B pa : Nat} {sa sa' : Value} (h : ∀ i, OfC pa sa i → B ≤ i) (hs : ∀ b, sa'.ownBlock = some b → sa.ownBlock = some b ∨ w.heap.size ≤ b) (hB : B ≤ w.heap.size) : ∀ i, OfC pa sa' i → B ≤ i := by
  rintro i (rfl | hi)
  · exact h _ (.inl rfl)
  · rcases hs i hi with h1 | h1
    · exact h _ (.inr h1)
    · omega
theorem putE_in (S : List (Ver Nat)) (n : Int) : 0 ≤ putE S n ∧ putE S n ≤ 24 := by unfold putE; split <;> omega
theorem put_st {S : List (Ver Nat)} {n : Int} {j N : Nat} (h : ∀ x ∈ S, x.v < N) (hj : j < N) : ∀ x ∈ putL S ⟨n, j⟩, x.v < N := by
  intro x hx
  unfold putL at hx
  split at hx
  · rcases List.mem_append.1 hx with h1 | h1
    · exact h x h1
    · rw [List.mem_singleton.1 h1]; exact hj
  · exact h x hx
theorem prune_st {S : List (Ver Nat)} {n : Int} {N : Nat} (h : ∀ x ∈ S, x.v < N) : ∀ x ∈ pruneL S n, x.v < N := by
  intro x hx
  unfold pruneL at hx
  split at hx
  · exact h x hx
  · exact h x (List.mem_of_mem_drop hx)

set_option maxRecDepth 100000 in
set_option maxHeartbeats 8000000 in
theorem lawTypes_calls (l : List OpS) (A : Option Addr) (c : Nat) (w : World) (hr : Reads w w.heap.size 4 A l.length (opsC l)) (hlen : l.length * 40 ≤ 140737488355328) (hG : HG w) :
    Calls Tryd.prog 4 #[.slice A l.length c] w fun e w' => e = .returned (.bool true) ∧ Below w.heap.size w w' := by
  have hll : l.length < 5864062014805 := by omega
  have HRD := Lib.hid hr
  clear hr
  go_enter Tryd.func4, Tryd.ntmps4
  go_wp2_with (fail)
  refine (CI.newChain_calls w).mono ?_
  rintro e w1 ⟨rfl, hC0, hb1⟩
  have HC0 := Lib.hid hC0
  have HB1 := Lib.hid hb1
  obtain ⟨pa, hpa⟩ : ∃ q, w.heap.size = q := ⟨_, rfl⟩
  obtain ⟨pb, hpb⟩ : ∃ q, w1.heap.size = q := ⟨_, rfl⟩
  have FA0 : Hid (∀ i, OfC pa (.slice none 0 0) i → w.heap.size ≤ i) := by
    rintro i (rfl | hi)
    · exact Nat.le_of_eq hpa
    · cases hi
  have FB0 : Hid (∀ i, OfC pb (.slice none 0 0) i → w.heap.size ≤ i) := by
    rintro i (rfl | hi)
    · rw [← hpb]; exact hb1.size
    · cases hi
  rw [hpa] at HC0
  rw [hpa]
  clear hC0 hb1 hpa
  go_wp2_with (fail)
  refine (CT.newChain_calls w1).mono ?_
  rintro e w2 ⟨rfl, hC1, hb2⟩
  rw [hpb] at hC1
  rw [hpb]
  have hT : Tri w2 w.heap.size pa pb (.slice none 0 0) (.slice none 0 0) (.slice none 0 0) [] l := ⟨HC0.out.below hb2, hC1, World.ownsRow_nil _ _ _ _, UpV.nil, by simp, FA0.out, FB0.out⟩
  have HT0 := Lib.hid hT
  have HB2 := Lib.hid (HB1.out.trans (hb2.mono HB1.out.size))
  clear hT hC1 hb2 hpb HC0 HB1 FA0 FB0
  go_wp2_with (fail)
  go_loopw [5, 6] (fun rv i wr => ∃ k : Nat, k ≤ l.length ∧ i = .int .i64 k ∧ ∃ sa sb S, Tri wr w.heap.size pa pb sa sb rv S l ∧ S.length ≤ k ∧ Below w.heap.size w wr) (fun _ i _ => l.length - (intOf i).toNat)
  case atStart => exact ⟨0, Nat.zero_le _, rfl, _, _, [], HT0.out, by simp, HB2.out⟩
  case round =>
    obtain ⟨k, hk, rfl, sa, sb, S, hT, hS, hB⟩ := hrel
    rename World => wr
    have HT := Lib.hid hT
    have HB_0 := Lib.hid hB
    clear hT hB HT0 HB2
    obtain ⟨RA, rc, hrv⟩ := own_slice HT.out.r
    rw [mapV_len] at hrv
    subst hrv
    by_cases hlt : k < l.length
    · have hkl : (k : Int) < (l.length : Int) := by omega
      have hk2 : k ≤ 5864062014805 := by omega
      have HTH := Lib.hid (thOf_at hlt)
      obtain ⟨ad, rfl, hadb, e0, e1, e2, e3⟩ := ops_at (HRD.out.below HB_0.out) hlt
      generalize l[k] = o at HTH e0 e1 e2 e3
      obtain ⟨go, hgo⟩ : ∃ g, wr.heap.size = g := ⟨_, rfl⟩
      obtain ⟨W1, hW1⟩ : ∃ X, wr.alloc (.cells #[.int .i64 o.on, .int .i64 o.kd, .int .i64 o.n, .string o.v] 48) = X := ⟨_, rfl⟩
      obtain ⟨gv, hgv⟩ : ∃ g, W1.heap.size = g := ⟨_, rfl⟩
      obtain ⟨W2, hW2⟩ : ∃ X, W1.alloc (.cells #[.int .i64 o.on, .int .u8 (o.n % 256), .int .u8 (o.kd % 256)] 45) = X := ⟨_, rfl⟩
      have hb1 : Below wr.heap.size wr W1 := hW1 ▸ (Below.refl _ _).alloc (Nat.le_refl _) _
      have hb2 : Below W1.heap.size W1 W2 := hW2 ▸ (Below.refl _ _).alloc (Nat.le_refl _) _
      have hb12 : Below wr.heap.size wr W2 := hb1.trans (hb2.mono hb1.size)
      have po1 : Blk W1 go 48 #[.int .i64 o.on, .int .i64 o.kd, .int .i64 o.n, .string o.v] := by rw [← hW1]; exact hgo ▸ Blk.new _ _ _
      have Po_2 := Lib.hid (po1.below hb2 po1.lt)
      have Pv_2 : Hid (Blk W2 gv 45 #[.int .i64 o.on, .int .u8 (o.n % 256), .int .u8 (o.kd % 256)]) := by rw [← hW2]; exact hgv ▸ Blk.new _ _ _
      have HB_2 := Lib.hid (HB_0.out.trans (hb12.mono HB_0.out.size))
      have HT2 := Lib.hid (HT.out.below hb12)
      have FA := Lib.hid HT.out.fa
      have FB := Lib.hid HT.out.fb
      have HUP := Lib.hid HT.out.up
      have HST := Lib.hid HT.out.st
      have Aa_2 := Lib.hid HT2.out.a
      have Bb_2 := Lib.hid HT2.out.b
      have Rr_2 := Lib.hid HT2.out.r
      have o0 : W1.cell? ⟨go, 0, none⟩ = some (.int .i64 o.on) := po1.cell 0
      have o1 : W1.cell? ⟨go, 1, none⟩ = some (.int .i64 o.kd) := po1.cell 1
      have o2 : W1.cell? ⟨go, 2, none⟩ = some (.int .i64 o.n) := po1.cell 2
      clear hb1 hb2 hb12 po1 hadb HT HT2
      go_wp2_with (fail)
      refine (told_calls k W2 hk2).mono ?_
      rintro e w4 ⟨rfl, hb4⟩
      clear o0 o1 o2 e0 e1 e2 e3 hW1 hW2 hgo hgv
      have HB_4 := Lib.hid (HB_2.out.trans (hb4.mono HB_2.out.size))
      have Po_4 := Lib.hid (Po_2.out.below hb4 Po_2.out.lt)
      have Pv_4 := Lib.hid (Pv_2.out.below hb4 Pv_2.out.lt)
      have Aa_4 := Lib.hid (Aa_2.out.below hb4)
      have Bb_4 := Lib.hid (Bb_2.out.below hb4)
      have Rr_4 := Lib.hid (rowR_below Rr_2.out hb4)
      have RR0 := Rr_4
      clear hb4
      have o1 : w4.cell? ⟨go, 1, none⟩ = some (.int .i64 o.kd) := Po_4.out.cell 1
      have o2 : w4.cell? ⟨go, 2, none⟩ = some (.int .i64 o.n) := Po_4.out.cell 2
      go_wp2_with (fail)
      refine (pick_calls o.kd 7 w4 (by decide) (by decide)).mono ?_
      rintro e wp ⟨r, rfl, hr7, hwp⟩
      rw [hwp]
      clear hwp wp
      have hr7n : r < 7 := by omega
      clear hr7
      by_cases hr0 : r = 0
      · subst hr0
        rw [show ((0 : Nat) : Int) = 0 from rfl]
        go_wp2_with (fail)
        refine (rput_calls (mapV toldB S) (mapV_up _ HUP.out) (.slice RA S.length rc) o.n (toldB k) w4 RR0.out (by rw [mapV_len]; omega)).mono ?_
        rintro e w5 ⟨rv5, rfl, hr5, hb5⟩
        rw [mapV_put] at hr5
        rw [mapV_putE]
        obtain ⟨RB, rd, rfl⟩ := own_slice hr5
        have HB_5 := Lib.hid (HB_4.out.trans (hb5.mono HB_4.out.size))
        have Po_5 := Lib.hid (Po_4.out.below hb5 Po_4.out.lt)
        have Pv_5 := Lib.hid (Pv_4.out.below hb5 Pv_4.out.lt)
        have Aa_5 := Lib.hid (Aa_4.out.below hb5)
        have Bb_5 := Lib.hid (Bb_4.out.below hb5)
        have Rr_5 := Lib.hid (rowR_below Rr_4.out hb5)
        clear hb5
        have Rr_5 := Lib.hid hr5
        clear hr5
        have o2_5 : w5.cell? ⟨go, 2, none⟩ = some (.int .i64 o.n) := Po_5.out.cell 2
        go_wp2_with (fail)
        refine (CI.put_calls o.n (ofN k) w5 Aa_5.out (by rw [mapV_len]; omega)).mono ?_
        rintro e w6 ⟨sa6, rfl, hC6, hb6, hs6⟩
        rw [mapV_put] at hC6
        rw [mapV_putE]
        clear o2_5
        have HB_6 := Lib.hid (HB_5.out.trans (hb6.to_below FA.out HB_5.out.size))
        have Po_6 := Lib.hid (Po_5.out.but hb6 (blkA_ne Aa_5.out Po_5.out (by decide) (by decide)))
        have Pv_6 := Lib.hid (Pv_5.out.but hb6 (blkA_ne Aa_5.out Pv_5.out (by decide) (by decide)))
        have Bb_6 := Lib.hid (Bb_5.out.but hb6 (ab_ne Aa_5.out Bb_5.out))
        have Rr_6 : Hid (RowR w6 _ _) := own_but Rr_5.out hb6 (ra_ne Aa_5.out Rr_5.out)
        have FA2 := Lib.hid (fa_next FA.out hs6 HB_5.out.size)
        have Aa_6 := Lib.hid hC6
        clear hb6 hC6 hs6
        have o2_6 : w6.cell? ⟨go, 2, none⟩ = some (.int .i64 o.n) := Po_6.out.cell 2
        have v0_6 : w6.cell? ⟨gv, 0, none⟩ = some (.int .i64 o.on) := Pv_6.out.cell 0
        have v1_6 : w6.cell? ⟨gv, 1, none⟩ = some (.int .u8 (o.n % 256)) := Pv_6.out.cell 1
        have v2_6 : w6.cell? ⟨gv, 2, none⟩ = some (.int .u8 (o.kd % 256)) := Pv_6.out.cell 2
        go_wp2_with (fail)
        have hput := CT.put_calls o.n (thOf l k) w6 Bb_6.out (by rw [mapV_len]; omega)
        rw [HTH.out] at hput
        refine hput.mono ?_
        rintro e w7 ⟨sb7, rfl, hC7, hb7, hs7⟩
        rw [← HTH.out, mapV_put] at hC7
        rw [mapV_putE]
        clear hput
        clear o2_6 v0_6 v1_6 v2_6
        have HB_7 := Lib.hid (HB_6.out.trans (hb7.to_below FB.out HB_6.out.size))
        have Po_7 := Lib.hid (Po_6.out.but hb7 (blkB_ne Bb_6.out Po_6.out (by decide) (by decide)))
        have Pv_7 := Lib.hid (Pv_6.out.but hb7 (blkB_ne Bb_6.out Pv_6.out (by decide) (by decide)))
        have Aa_7 := Lib.hid (Aa_6.out.but hb7 (fun i ha hb => ab_ne Aa_6.out Bb_6.out i hb ha))
        have Rr_7 : Hid (RowR w7 _ _) := own_but Rr_6.out hb7 (rb_ne Bb_6.out Rr_6.out)
        have FB2 := Lib.hid (fa_next FB.out hs7 HB_6.out.size)
        have Bb_7 := Lib.hid hC7
        clear hb7 hC7 hs7
        obtain ⟨pe, hpe⟩ : ∃ x, putE S o.n = x := ⟨_, rfl⟩
        have hxe := putE_in S o.n
        rw [hpe] at hxe ⊢
        have HPE := Lib.hid hxe
        clear hpe hxe
        go_wp2_with (fail)
        refine (plain_errV pe pe w7 HPE.out.1 HPE.out.2 (hG.below HB_7.out)).mono ?_
        rintro e w8 ⟨rfl, hb8⟩
        rw [show (pe == pe) = true by simp]
        have HB_8 := Lib.hid (HB_7.out.trans (hb8.mono HB_7.out.size))
        have Po_8 := Lib.hid (Po_7.out.below hb8 Po_7.out.lt)
        have Pv_8 := Lib.hid (Pv_7.out.below hb8 Pv_7.out.lt)
        have Aa_8 := Lib.hid (Aa_7.out.below hb8)
        have Bb_8 := Lib.hid (Bb_7.out.below hb8)
        have Rr_8 := Lib.hid (rowR_below Rr_7.out hb8)
        clear hb8
        go_wp2_with (fail)
        refine (plain_errV pe pe w8 HPE.out.1 HPE.out.2 (hG.below HB_8.out)).mono ?_
        rintro e w9 ⟨rfl, hb9⟩
        rw [show (pe == pe) = true by simp]
        have HB_9 := Lib.hid (HB_8.out.trans (hb9.mono HB_8.out.size))
        have Po_9 := Lib.hid (Po_8.out.below hb9 Po_8.out.lt)
        have Pv_9 := Lib.hid (Pv_8.out.below hb9 Pv_8.out.lt)
        have Aa_9 := Lib.hid (Aa_8.out.below hb9)
        have Bb_9 := Lib.hid (Bb_8.out.below hb9)
        have Rr_9 := Lib.hid (rowR_below Rr_8.out hb9)
        clear hb9
        have o2_9 : w9.cell? ⟨go, 2, none⟩ = some (.int .i64 o.n) := Po_9.out.cell 2
        go_wp2_with (fail)
        have hT : Tri w9 w.heap.size pa pb _ _ _ (putL S ⟨o.n, k⟩) l := ⟨Aa_9.out, Bb_9.out, Rr_9.out, HUP.out.put _, put_st HST.out hlt, FA2.out, FB2.out⟩
        have HT := Lib.hid hT
        clear hT
        refine (lawCounts_calls l (some ad) c o.n w9 HT.out ((HRD.out.below HB_9.out).more HB_9.out.size) (by omega)).mono ?_
        rintro e wz ⟨rfl, hbz⟩
        clear o2_9
        have HTZ := Lib.hid (HT.out.below hbz)
        have HBZ := Lib.hid (HB_9.out.trans (hbz.mono HB_9.out.size))
        clear hbz
        go_wp2_with (fail)
        go_roundw
        case rel => exact ⟨k + 1, by omega, by go_num, _, _, _, HTZ.out, Nat.le_trans (putL_len _ _) (by omega), HBZ.out⟩
        case measure => simp [intOf]; omega
      · skip
        by_cases hr1 : r = 1
        · subst hr1
          rw [show ((1 : Nat) : Int) = 1 from rfl]
          have o2_4 : w4.cell? ⟨go, 2, none⟩ = some (.int .i64 o.n) := Po_4.out.cell 2
          go_wp2_with (fail)
          have hT : Tri w4 w.heap.size pa pb _ _ _ (S) l := ⟨Aa_4.out, Bb_4.out, Rr_4.out, HUP.out, HST.out, FA.out, FB.out⟩
          have HT := Lib.hid hT
          clear hT
          refine (lawCounts_calls l (some ad) c o.n w4 HT.out ((HRD.out.below HB_4.out).more HB_4.out.size) (by omega)).mono ?_
          rintro e wz ⟨rfl, hbz⟩
          clear o2_4
          have HTZ := Lib.hid (HT.out.below hbz)
          have HBZ := Lib.hid (HB_4.out.trans (hbz.mono HB_4.out.size))
          clear hbz
          go_wp2_with (fail)
          go_roundw
          case rel => exact ⟨k + 1, by omega, by go_num, _, _, _, HTZ.out, by omega, HBZ.out⟩
          case measure => simp [intOf]; omega
        · skip
          by_cases hr2 : r = 2
          · subst hr2
            rw [show ((2 : Nat) : Int) = 2 from rfl]
            have o2_4 : w4.cell? ⟨go, 2, none⟩ = some (.int .i64 o.n) := Po_4.out.cell 2
            go_wp2_with (fail)
            have hT : Tri w4 w.heap.size pa pb _ _ _ (S) l := ⟨Aa_4.out, Bb_4.out, Rr_4.out, HUP.out, HST.out, FA.out, FB.out⟩
            have HT := Lib.hid hT
            clear hT
            refine (lawCounts_calls l (some ad) c o.n w4 HT.out ((HRD.out.below HB_4.out).more HB_4.out.size) (by omega)).mono ?_
            rintro e wz ⟨rfl, hbz⟩
            clear o2_4
            have HTZ := Lib.hid (HT.out.below hbz)
            have HBZ := Lib.hid (HB_4.out.trans (hbz.mono HB_4.out.size))
            clear hbz
            go_wp2_with (fail)
            go_roundw
            case rel => exact ⟨k + 1, by omega, by go_num, _, _, _, HTZ.out, by omega, HBZ.out⟩
            case measure => simp [intOf]; omega
          · skip
            by_cases hr3 : r = 3
            · subst hr3
              rw [show ((3 : Nat) : Int) = 3 from rfl]
              go_wp2_with (fail)
              refine (rprune_calls (mapV toldB S) (mapV_up _ HUP.out) (.slice RA S.length rc) o.n w4 RR0.out (by rw [mapV_len]; omega)).mono ?_
              rintro e w5 ⟨rv5, rfl, hr5, hb5⟩
              rw [mapV_prune] at hr5
              rw [mapV_pruneN]
              obtain ⟨RB, rd, rfl⟩ := own_slice hr5
              have HB_5 := Lib.hid (HB_4.out.trans (hb5.mono HB_4.out.size))
              have Po_5 := Lib.hid (Po_4.out.below hb5 Po_4.out.lt)
              have Pv_5 := Lib.hid (Pv_4.out.below hb5 Pv_4.out.lt)
              have Aa_5 := Lib.hid (Aa_4.out.below hb5)
              have Bb_5 := Lib.hid (Bb_4.out.below hb5)
              have Rr_5 := Lib.hid (rowR_below Rr_4.out hb5)
              clear hb5
              have Rr_5 := Lib.hid hr5
              clear hr5
              have o2_5 : w5.cell? ⟨go, 2, none⟩ = some (.int .i64 o.n) := Po_5.out.cell 2
              go_wp2_with (fail)
              refine (CI.prune_calls o.n w5 Aa_5.out).mono ?_
              rintro e w6 ⟨sa6, rfl, hC6, hb6, hs6⟩
              rw [mapV_prune] at hC6
              rw [mapV_pruneN]
              clear o2_5
              have HB_6 := Lib.hid (HB_5.out.trans (hb6.to_below FA.out HB_5.out.size))
              have Po_6 := Lib.hid (Po_5.out.but hb6 (blkA_ne Aa_5.out Po_5.out (by decide) (by decide)))
              have Pv_6 := Lib.hid (Pv_5.out.but hb6 (blkA_ne Aa_5.out Pv_5.out (by decide) (by decide)))
              have Bb_6 := Lib.hid (Bb_5.out.but hb6 (ab_ne Aa_5.out Bb_5.out))
              have Rr_6 : Hid (RowR w6 _ _) := own_but Rr_5.out hb6 (ra_ne Aa_5.out Rr_5.out)
              have FA2 := Lib.hid (fa_next FA.out hs6 HB_5.out.size)
              have Aa_6 := Lib.hid hC6
              clear hb6 hC6 hs6
              have o2_6 : w6.cell? ⟨go, 2, none⟩ = some (.int .i64 o.n) := Po_6.out.cell 2
              go_wp2_with (fail)
              refine (CT.prune_calls o.n w6 Bb_6.out).mono ?_
              rintro e w7 ⟨sb7, rfl, hC7, hb7, hs7⟩
              rw [mapV_prune] at hC7
              rw [mapV_pruneN]
              clear o2_6
              have HB_7 := Lib.hid (HB_6.out.trans (hb7.to_below FB.out HB_6.out.size))
              have Po_7 := Lib.hid (Po_6.out.but hb7 (blkB_ne Bb_6.out Po_6.out (by decide) (by decide)))
              have Pv_7 := Lib.hid (Pv_6.out.but hb7 (blkB_ne Bb_6.out Pv_6.out (by decide) (by decide)))
              have Aa_7 := Lib.hid (Aa_6.out.but hb7 (fun i ha hb => ab_ne Aa_6.out Bb_6.out i hb ha))
              have Rr_7 : Hid (RowR w7 _ _) := own_but Rr_6.out hb7 (rb_ne Bb_6.out Rr_6.out)
              have FB2 := Lib.hid (fa_next FB.out hs7 HB_6.out.size)
              have Bb_7 := Lib.hid hC7
              clear hb7 hC7 hs7
              have o2_7 : w7.cell? ⟨go, 2, none⟩ = some (.int .i64 o.n) := Po_7.out.cell 2
              go_wp2_with (fail)
              have hT : Tri w7 w.heap.size pa pb _ _ _ (pruneL S o.n) l := ⟨Aa_7.out, Bb_7.out, Rr_7.out, HUP.out.prune _, prune_st HST.out, FA2.out, FB2.out⟩
              have HT := Lib.hid hT
              clear hT
              refine (lawCounts_calls l (some ad) c o.n w7 HT.out ((HRD.out.below HB_7.out).more HB_7.out.size) (by omega)).mono ?_
              rintro e wz ⟨rfl, hbz⟩
              clear o2_7
              have HTZ := Lib.hid (HT.out.below hbz)
              have HBZ := Lib.hid (HB_7.out.trans (hbz.mono HB_7.out.size))
              clear hbz
              go_wp2_with (fail)
              go_roundw
              case rel => exact ⟨k + 1, by omega, by go_num, _, _, _, HTZ.out, Nat.le_trans (pruneL_len _ _) (by omega), HBZ.out⟩
              case measure => simp [intOf]; omega
            · skip
              by_cases hr4 : r = 4
              · subst hr4
                rw [show ((4 : Nat) : Int) = 4 from rfl]
                go_wp2_with (fail)
                refine (rput_calls (mapV toldB S) (mapV_up _ HUP.out) (.slice RA S.length rc) o.n (toldB k) w4 RR0.out (by rw [mapV_len]; omega)).mono ?_
                rintro e w5 ⟨rv5, rfl, hr5, hb5⟩
                rw [mapV_put] at hr5
                rw [mapV_putE]
                obtain ⟨RB, rd, rfl⟩ := own_slice hr5
                have HB_5 := Lib.hid (HB_4.out.trans (hb5.mono HB_4.out.size))
                have Po_5 := Lib.hid (Po_4.out.below hb5 Po_4.out.lt)
                have Pv_5 := Lib.hid (Pv_4.out.below hb5 Pv_4.out.lt)
                have Aa_5 := Lib.hid (Aa_4.out.below hb5)
                have Bb_5 := Lib.hid (Bb_4.out.below hb5)
                have Rr_5 := Lib.hid (rowR_below Rr_4.out hb5)
                clear hb5
                have Rr_5 := Lib.hid hr5
                clear hr5
                have o2_5 : w5.cell? ⟨go, 2, none⟩ = some (.int .i64 o.n) := Po_5.out.cell 2
                go_wp2_with (fail)
                refine (CI.put_calls o.n (ofN k) w5 Aa_5.out (by rw [mapV_len]; omega)).mono ?_
                rintro e w6 ⟨sa6, rfl, hC6, hb6, hs6⟩
                rw [mapV_put] at hC6
                rw [mapV_putE]
                clear o2_5
                have HB_6 := Lib.hid (HB_5.out.trans (hb6.to_below FA.out HB_5.out.size))
                have Po_6 := Lib.hid (Po_5.out.but hb6 (blkA_ne Aa_5.out Po_5.out (by decide) (by decide)))
                have Pv_6 := Lib.hid (Pv_5.out.but hb6 (blkA_ne Aa_5.out Pv_5.out (by decide) (by decide)))
                have Bb_6 := Lib.hid (Bb_5.out.but hb6 (ab_ne Aa_5.out Bb_5.out))
                have Rr_6 : Hid (RowR w6 _ _) := own_but Rr_5.out hb6 (ra_ne Aa_5.out Rr_5.out)
                have FA2 := Lib.hid (fa_next FA.out hs6 HB_5.out.size)
                have Aa_6 := Lib.hid hC6
                clear hb6 hC6 hs6
                have o2_6 : w6.cell? ⟨go, 2, none⟩ = some (.int .i64 o.n) := Po_6.out.cell 2
                have v0_6 : w6.cell? ⟨gv, 0, none⟩ = some (.int .i64 o.on) := Pv_6.out.cell 0
                have v1_6 : w6.cell? ⟨gv, 1, none⟩ = some (.int .u8 (o.n % 256)) := Pv_6.out.cell 1
                have v2_6 : w6.cell? ⟨gv, 2, none⟩ = some (.int .u8 (o.kd % 256)) := Pv_6.out.cell 2
                go_wp2_with (fail)
                have hput := CT.put_calls o.n (thOf l k) w6 Bb_6.out (by rw [mapV_len]; omega)
                rw [HTH.out] at hput
                refine hput.mono ?_
                rintro e w7 ⟨sb7, rfl, hC7, hb7, hs7⟩
                rw [← HTH.out, mapV_put] at hC7
                rw [mapV_putE]
                clear hput
                clear o2_6 v0_6 v1_6 v2_6
                have HB_7 := Lib.hid (HB_6.out.trans (hb7.to_below FB.out HB_6.out.size))
                have Po_7 := Lib.hid (Po_6.out.but hb7 (blkB_ne Bb_6.out Po_6.out (by decide) (by decide)))
                have Pv_7 := Lib.hid (Pv_6.out.but hb7 (blkB_ne Bb_6.out Pv_6.out (by decide) (by decide)))
                have Aa_7 := Lib.hid (Aa_6.out.but hb7 (fun i ha hb => ab_ne Aa_6.out Bb_6.out i hb ha))
                have Rr_7 : Hid (RowR w7 _ _) := own_but Rr_6.out hb7 (rb_ne Bb_6.out Rr_6.out)
                have FB2 := Lib.hid (fa_next FB.out hs7 HB_6.out.size)
                have Bb_7 := Lib.hid hC7
                clear hb7 hC7 hs7
                obtain ⟨pe, hpe⟩ : ∃ x, putE S o.n = x := ⟨_, rfl⟩
                have hxe := putE_in S o.n
                rw [hpe] at hxe ⊢
                have HPE := Lib.hid hxe
                clear hpe hxe
                go_wp2_with (fail)
                refine (plain_errV pe pe w7 HPE.out.1 HPE.out.2 (hG.below HB_7.out)).mono ?_
                rintro e w8 ⟨rfl, hb8⟩
                rw [show (pe == pe) = true by simp]
                have HB_8 := Lib.hid (HB_7.out.trans (hb8.mono HB_7.out.size))
                have Po_8 := Lib.hid (Po_7.out.below hb8 Po_7.out.lt)
                have Pv_8 := Lib.hid (Pv_7.out.below hb8 Pv_7.out.lt)
                have Aa_8 := Lib.hid (Aa_7.out.below hb8)
                have Bb_8 := Lib.hid (Bb_7.out.below hb8)
                have Rr_8 := Lib.hid (rowR_below Rr_7.out hb8)
                clear hb8
                go_wp2_with (fail)
                refine (plain_errV pe pe w8 HPE.out.1 HPE.out.2 (hG.below HB_8.out)).mono ?_
                rintro e w9 ⟨rfl, hb9⟩
                rw [show (pe == pe) = true by simp]
                have HB_9 := Lib.hid (HB_8.out.trans (hb9.mono HB_8.out.size))
                have Po_9 := Lib.hid (Po_8.out.below hb9 Po_8.out.lt)
                have Pv_9 := Lib.hid (Pv_8.out.below hb9 Pv_8.out.lt)
                have Aa_9 := Lib.hid (Aa_8.out.below hb9)
                have Bb_9 := Lib.hid (Bb_8.out.below hb9)
                have Rr_9 := Lib.hid (rowR_below Rr_8.out hb9)
                clear hb9
                have o2_9 : w9.cell? ⟨go, 2, none⟩ = some (.int .i64 o.n) := Po_9.out.cell 2
                go_wp2_with (fail)
                have hT : Tri w9 w.heap.size pa pb _ _ _ (putL S ⟨o.n, k⟩) l := ⟨Aa_9.out, Bb_9.out, Rr_9.out, HUP.out.put _, put_st HST.out hlt, FA2.out, FB2.out⟩
                have HT := Lib.hid hT
                clear hT
                refine (lawCounts_calls l (some ad) c o.n w9 HT.out ((HRD.out.below HB_9.out).more HB_9.out.size) (by omega)).mono ?_
                rintro e wz ⟨rfl, hbz⟩
                clear o2_9
                have HTZ := Lib.hid (HT.out.below hbz)
                have HBZ := Lib.hid (HB_9.out.trans (hbz.mono HB_9.out.size))
                clear hbz
                go_wp2_with (fail)
                go_roundw
                case rel => exact ⟨k + 1, by omega, by go_num, _, _, _, HTZ.out, Nat.le_trans (putL_len _ _) (by omega), HBZ.out⟩
                case measure => simp [intOf]; omega
              · skip
                by_cases hr5 : r = 5
                · subst hr5
                  rw [show ((5 : Nat) : Int) = 5 from rfl]
                  go_wp2_with (fail)
                  refine (rput_calls (mapV toldB S) (mapV_up _ HUP.out) (.slice RA S.length rc) o.n (toldB k) w4 RR0.out (by rw [mapV_len]; omega)).mono ?_
                  rintro e w5 ⟨rv5, rfl, hr5, hb5⟩
                  rw [mapV_put] at hr5
                  rw [mapV_putE]
                  obtain ⟨RB, rd, rfl⟩ := own_slice hr5
                  have HB_5 := Lib.hid (HB_4.out.trans (hb5.mono HB_4.out.size))
                  have Po_5 := Lib.hid (Po_4.out.below hb5 Po_4.out.lt)
                  have Pv_5 := Lib.hid (Pv_4.out.below hb5 Pv_4.out.lt)
                  have Aa_5 := Lib.hid (Aa_4.out.below hb5)
                  have Bb_5 := Lib.hid (Bb_4.out.below hb5)
                  have Rr_5 := Lib.hid (rowR_below Rr_4.out hb5)
                  clear hb5
                  have Rr_5 := Lib.hid hr5
                  clear hr5
                  have o2_5 : w5.cell? ⟨go, 2, none⟩ = some (.int .i64 o.n) := Po_5.out.cell 2
                  go_wp2_with (fail)
                  refine (CI.put_calls o.n (ofN k) w5 Aa_5.out (by rw [mapV_len]; omega)).mono ?_
                  rintro e w6 ⟨sa6, rfl, hC6, hb6, hs6⟩
                  rw [mapV_put] at hC6
                  rw [mapV_putE]
                  clear o2_5
                  have HB_6 := Lib.hid (HB_5.out.trans (hb6.to_below FA.out HB_5.out.size))
                  have Po_6 := Lib.hid (Po_5.out.but hb6 (blkA_ne Aa_5.out Po_5.out (by decide) (by decide)))
                  have Pv_6 := Lib.hid (Pv_5.out.but hb6 (blkA_ne Aa_5.out Pv_5.out (by decide) (by decide)))
                  have Bb_6 := Lib.hid (Bb_5.out.but hb6 (ab_ne Aa_5.out Bb_5.out))
                  have Rr_6 : Hid (RowR w6 _ _) := own_but Rr_5.out hb6 (ra_ne Aa_5.out Rr_5.out)
                  have FA2 := Lib.hid (fa_next FA.out hs6 HB_5.out.size)
                  have Aa_6 := Lib.hid hC6
                  clear hb6 hC6 hs6
                  have o2_6 : w6.cell? ⟨go, 2, none⟩ = some (.int .i64 o.n) := Po_6.out.cell 2
                  have v0_6 : w6.cell? ⟨gv, 0, none⟩ = some (.int .i64 o.on) := Pv_6.out.cell 0
                  have v1_6 : w6.cell? ⟨gv, 1, none⟩ = some (.int .u8 (o.n % 256)) := Pv_6.out.cell 1
                  have v2_6 : w6.cell? ⟨gv, 2, none⟩ = some (.int .u8 (o.kd % 256)) := Pv_6.out.cell 2
                  go_wp2_with (fail)
                  have hput := CT.put_calls o.n (thOf l k) w6 Bb_6.out (by rw [mapV_len]; omega)
                  rw [HTH.out] at hput
                  refine hput.mono ?_
                  rintro e w7 ⟨sb7, rfl, hC7, hb7, hs7⟩
                  rw [← HTH.out, mapV_put] at hC7
                  rw [mapV_putE]
                  clear hput
                  clear o2_6 v0_6 v1_6 v2_6
                  have HB_7 := Lib.hid (HB_6.out.trans (hb7.to_below FB.out HB_6.out.size))
                  have Po_7 := Lib.hid (Po_6.out.but hb7 (blkB_ne Bb_6.out Po_6.out (by decide) (by decide)))
                  have Pv_7 := Lib.hid (Pv_6.out.but hb7 (blkB_ne Bb_6.out Pv_6.out (by decide) (by decide)))
                  have Aa_7 := Lib.hid (Aa_6.out.but hb7 (fun i ha hb => ab_ne Aa_6.out Bb_6.out i hb ha))
                  have Rr_7 : Hid (RowR w7 _ _) := own_but Rr_6.out hb7 (rb_ne Bb_6.out Rr_6.out)
                  have FB2 := Lib.hid (fa_next FB.out hs7 HB_6.out.size)
                  have Bb_7 := Lib.hid hC7
                  clear hb7 hC7 hs7
                  obtain ⟨pe, hpe⟩ : ∃ x, putE S o.n = x := ⟨_, rfl⟩
                  have hxe := putE_in S o.n
                  rw [hpe] at hxe ⊢
                  have HPE := Lib.hid hxe
                  clear hpe hxe
                  go_wp2_with (fail)
                  refine (plain_errV pe pe w7 HPE.out.1 HPE.out.2 (hG.below HB_7.out)).mono ?_
                  rintro e w8 ⟨rfl, hb8⟩
                  rw [show (pe == pe) = true by simp]
                  have HB_8 := Lib.hid (HB_7.out.trans (hb8.mono HB_7.out.size))
                  have Po_8 := Lib.hid (Po_7.out.below hb8 Po_7.out.lt)
                  have Pv_8 := Lib.hid (Pv_7.out.below hb8 Pv_7.out.lt)
                  have Aa_8 := Lib.hid (Aa_7.out.below hb8)
                  have Bb_8 := Lib.hid (Bb_7.out.below hb8)
                  have Rr_8 := Lib.hid (rowR_below Rr_7.out hb8)
                  clear hb8
                  go_wp2_with (fail)
                  refine (plain_errV pe pe w8 HPE.out.1 HPE.out.2 (hG.below HB_8.out)).mono ?_
                  rintro e w9 ⟨rfl, hb9⟩
                  rw [show (pe == pe) = true by simp]
                  have HB_9 := Lib.hid (HB_8.out.trans (hb9.mono HB_8.out.size))
                  have Po_9 := Lib.hid (Po_8.out.below hb9 Po_8.out.lt)
                  have Pv_9 := Lib.hid (Pv_8.out.below hb9 Pv_8.out.lt)
                  have Aa_9 := Lib.hid (Aa_8.out.below hb9)
                  have Bb_9 := Lib.hid (Bb_8.out.below hb9)
                  have Rr_9 := Lib.hid (rowR_below Rr_8.out hb9)
                  clear hb9
                  have o2_9 : w9.cell? ⟨go, 2, none⟩ = some (.int .i64 o.n) := Po_9.out.cell 2
                  go_wp2_with (fail)
                  have hT : Tri w9 w.heap.size pa pb _ _ _ (putL S ⟨o.n, k⟩) l := ⟨Aa_9.out, Bb_9.out, Rr_9.out, HUP.out.put _, put_st HST.out hlt, FA2.out, FB2.out⟩
                  have HT := Lib.hid hT
                  clear hT
                  refine (lawCounts_calls l (some ad) c o.n w9 HT.out ((HRD.out.below HB_9.out).more HB_9.out.size) (by omega)).mono ?_
                  rintro e wz ⟨rfl, hbz⟩
                  clear o2_9
                  have HTZ := Lib.hid (HT.out.below hbz)
                  have HBZ := Lib.hid (HB_9.out.trans (hbz.mono HB_9.out.size))
                  clear hbz
                  go_wp2_with (fail)
                  go_roundw
                  case rel => exact ⟨k + 1, by omega, by go_num, _, _, _, HTZ.out, Nat.le_trans (putL_len _ _) (by omega), HBZ.out⟩
                  case measure => simp [intOf]; omega
                · obtain rfl : r = 6 := by omega
                  rw [show ((6 : Nat) : Int) = 6 from rfl]
                  go_wp2_with (fail)
                  refine (rput_calls (mapV toldB S) (mapV_up _ HUP.out) (.slice RA S.length rc) o.n (toldB k) w4 RR0.out (by rw [mapV_len]; omega)).mono ?_
                  rintro e w5 ⟨rv5, rfl, hr5, hb5⟩
                  rw [mapV_put] at hr5
                  rw [mapV_putE]
                  obtain ⟨RB, rd, rfl⟩ := own_slice hr5
                  have HB_5 := Lib.hid (HB_4.out.trans (hb5.mono HB_4.out.size))
                  have Po_5 := Lib.hid (Po_4.out.below hb5 Po_4.out.lt)
                  have Pv_5 := Lib.hid (Pv_4.out.below hb5 Pv_4.out.lt)
                  have Aa_5 := Lib.hid (Aa_4.out.below hb5)
                  have Bb_5 := Lib.hid (Bb_4.out.below hb5)
                  have Rr_5 := Lib.hid (rowR_below Rr_4.out hb5)
                  clear hb5
                  have Rr_5 := Lib.hid hr5
                  clear hr5
                  have o2_5 : w5.cell? ⟨go, 2, none⟩ = some (.int .i64 o.n) := Po_5.out.cell 2
                  go_wp2_with (fail)
                  refine (CI.put_calls o.n (ofN k) w5 Aa_5.out (by rw [mapV_len]; omega)).mono ?_
                  rintro e w6 ⟨sa6, rfl, hC6, hb6, hs6⟩
                  rw [mapV_put] at hC6
                  rw [mapV_putE]
                  clear o2_5
                  have HB_6 := Lib.hid (HB_5.out.trans (hb6.to_below FA.out HB_5.out.size))
                  have Po_6 := Lib.hid (Po_5.out.but hb6 (blkA_ne Aa_5.out Po_5.out (by decide) (by decide)))
                  have Pv_6 := Lib.hid (Pv_5.out.but hb6 (blkA_ne Aa_5.out Pv_5.out (by decide) (by decide)))
                  have Bb_6 := Lib.hid (Bb_5.out.but hb6 (ab_ne Aa_5.out Bb_5.out))
                  have Rr_6 : Hid (RowR w6 _ _) := own_but Rr_5.out hb6 (ra_ne Aa_5.out Rr_5.out)
                  have FA2 := Lib.hid (fa_next FA.out hs6 HB_5.out.size)
                  have Aa_6 := Lib.hid hC6
                  clear hb6 hC6 hs6
                  have o2_6 : w6.cell? ⟨go, 2, none⟩ = some (.int .i64 o.n) := Po_6.out.cell 2
                  have v0_6 : w6.cell? ⟨gv, 0, none⟩ = some (.int .i64 o.on) := Pv_6.out.cell 0
                  have v1_6 : w6.cell? ⟨gv, 1, none⟩ = some (.int .u8 (o.n % 256)) := Pv_6.out.cell 1
                  have v2_6 : w6.cell? ⟨gv, 2, none⟩ = some (.int .u8 (o.kd % 256)) := Pv_6.out.cell 2
                  go_wp2_with (fail)
                  have hput := CT.put_calls o.n (thOf l k) w6 Bb_6.out (by rw [mapV_len]; omega)
                  rw [HTH.out] at hput
                  refine hput.mono ?_
                  rintro e w7 ⟨sb7, rfl, hC7, hb7, hs7⟩
                  rw [← HTH.out, mapV_put] at hC7
                  rw [mapV_putE]
                  clear hput
                  clear o2_6 v0_6 v1_6 v2_6
                  have HB_7 := Lib.hid (HB_6.out.trans (hb7.to_below FB.out HB_6.out.size))
                  have Po_7 := Lib.hid (Po_6.out.but hb7 (blkB_ne Bb_6.out Po_6.out (by decide) (by decide)))
                  have Pv_7 := Lib.hid (Pv_6.out.but hb7 (blkB_ne Bb_6.out Pv_6.out (by decide) (by decide)))
                  have Aa_7 := Lib.hid (Aa_6.out.but hb7 (fun i ha hb => ab_ne Aa_6.out Bb_6.out i hb ha))
                  have Rr_7 : Hid (RowR w7 _ _) := own_but Rr_6.out hb7 (rb_ne Bb_6.out Rr_6.out)
                  have FB2 := Lib.hid (fa_next FB.out hs7 HB_6.out.size)
                  have Bb_7 := Lib.hid hC7
                  clear hb7 hC7 hs7
                  obtain ⟨pe, hpe⟩ : ∃ x, putE S o.n = x := ⟨_, rfl⟩
                  have hxe := putE_in S o.n
                  rw [hpe] at hxe ⊢
                  have HPE := Lib.hid hxe
                  clear hpe hxe
                  go_wp2_with (fail)
                  refine (plain_errV pe pe w7 HPE.out.1 HPE.out.2 (hG.below HB_7.out)).mono ?_
                  rintro e w8 ⟨rfl, hb8⟩
                  rw [show (pe == pe) = true by simp]
                  have HB_8 := Lib.hid (HB_7.out.trans (hb8.mono HB_7.out.size))
                  have Po_8 := Lib.hid (Po_7.out.below hb8 Po_7.out.lt)
                  have Pv_8 := Lib.hid (Pv_7.out.below hb8 Pv_7.out.lt)
                  have Aa_8 := Lib.hid (Aa_7.out.below hb8)
                  have Bb_8 := Lib.hid (Bb_7.out.below hb8)
                  have Rr_8 := Lib.hid (rowR_below Rr_7.out hb8)
                  clear hb8
                  go_wp2_with (fail)
                  refine (plain_errV pe pe w8 HPE.out.1 HPE.out.2 (hG.below HB_8.out)).mono ?_
                  rintro e w9 ⟨rfl, hb9⟩
                  rw [show (pe == pe) = true by simp]
                  have HB_9 := Lib.hid (HB_8.out.trans (hb9.mono HB_8.out.size))
                  have Po_9 := Lib.hid (Po_8.out.below hb9 Po_8.out.lt)
                  have Pv_9 := Lib.hid (Pv_8.out.below hb9 Pv_8.out.lt)
                  have Aa_9 := Lib.hid (Aa_8.out.below hb9)
                  have Bb_9 := Lib.hid (Bb_8.out.below hb9)
                  have Rr_9 := Lib.hid (rowR_below Rr_8.out hb9)
                  clear hb9
                  have o2_9 : w9.cell? ⟨go, 2, none⟩ = some (.int .i64 o.n) := Po_9.out.cell 2
                  go_wp2_with (fail)
                  have hT : Tri w9 w.heap.size pa pb _ _ _ (putL S ⟨o.n, k⟩) l := ⟨Aa_9.out, Bb_9.out, Rr_9.out, HUP.out.put _, put_st HST.out hlt, FA2.out, FB2.out⟩
                  have HT := Lib.hid hT
                  clear hT
                  refine (lawCounts_calls l (some ad) c o.n w9 HT.out ((HRD.out.below HB_9.out).more HB_9.out.size) (by omega)).mono ?_
                  rintro e wz ⟨rfl, hbz⟩
                  clear o2_9
                  have HTZ := Lib.hid (HT.out.below hbz)
                  have HBZ := Lib.hid (HB_9.out.trans (hbz.mono HB_9.out.size))
                  clear hbz
                  go_wp2_with (fail)
                  go_roundw
                  case rel => exact ⟨k + 1, by omega, by go_num, _, _, _, HTZ.out, Nat.le_trans (putL_len _ _) (by omega), HBZ.out⟩
                  case measure => simp [intOf]; omega
    · obtain rfl : k = l.length := by omega
      go_wp2_with (fail)
      refine (lawCounts_calls l A c 9223372036854775807 wr HT.out ((HRD.out.below HB_0.out).more HB_0.out.size) hll).mono ?_
      rintro e wz ⟨rfl, hbz⟩
      go_wp2_with (fail)
      go_ret
      exact ⟨rfl, HB_0.out.trans (hbz.mono HB_0.out.size)⟩
end Go.Proofs.YtmljiegeingpeaaDoor
