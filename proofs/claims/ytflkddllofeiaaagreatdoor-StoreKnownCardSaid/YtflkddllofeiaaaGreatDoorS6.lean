/- Store: the law's own works; StoreHash. -/
import Derived.Test.YtflkddllofeiaaaGreatDoorS5
namespace Go.Proofs.YtflkddllofeiaaaGreatDoor
set_option linter.unusedSimpArgs false
set_option linter.unusedVariables false
open Go.RowKit Go.MapKept Go.ChangeMaps Go.Maps

theorem perm_one {α : Type} {l : List α} {x : α} (h : l.Perm [x]) : l = [x] := List.perm_singleton.1 h
set_option maxRecDepth 100000 in
set_option maxHeartbeats 2000000 in
theorem worksS_calls (w : World) (hG : HG w) : Calls Tryz.prog 8 #[] w fun e w' => e = .returned (.bool true) ∧ Below w.heap.size w w' := by
  have HG0 := Lib.hid hG
  clear hG
  go_enter Tryz.func8, Tryz.ntmps8
  go_wp2_with (fail)
  refine (newS_calls 3 w).mono ?_
  rintro e w1 ⟨s, rfl, hS1, hn1, hc1, _, _, hb1, ho1⟩
  rw [show cntS 3 = 3 from rfl] at hn1
  have hr1 : s.rows = [] := by unfold StV.rows; rw [hc1]; rfl
  have hg1 : getR s.rows ⟨1, 0⟩ = [] := by rw [hr1]; rfl
  have hp := putS_calls s ⟨1, 0⟩ 4 ⟨#[120]⟩ w1 hS1 (by rw [hg1]; decide)
  simp only at hp
  have HP := Lib.hid hp
  have HB1 := Lib.hid hb1
  have HO1 := Lib.hid ho1
  have HN1 := Lib.hid hn1
  have HR1 := Lib.hid hr1
  have HG1 := Lib.hid hg1
  have HS1 := Lib.hid hS1
  clear hp hb1 ho1 hn1 hr1 hg1 hS1 hc1
  go_wp2_with (fail)
  refine HP.out.mono ?_
  rintro e w2 ⟨s2, rfl, hq⟩
  have hput1 : putE (getR s.rows ⟨1, 0⟩) 4 = 0 := by rw [HG1.out]; rfl
  rw [hput1, show errV 0 = .nilIface from rfl]
  have hr2 : s2.rows = [(⟨1, 0⟩, [⟨4, ⟨#[120]⟩⟩])] := by
    have := hq.yes (by rw [HG1.out]; rfl)
    rw [HG1.out, HR1.out] at this
    exact perm_one this
  have hb2 := HB1.out.trans (hq.but.to_below HO1.out HB1.out.size)
  have hg2 : getR s2.rows ⟨1, 0⟩ = [⟨4, ⟨#[120]⟩⟩] := by rw [hr2]; rfl
  have hp := putS_calls s2 ⟨1, 0⟩ 4 ⟨#[121]⟩ w2 hq.at_ (by rw [hg2]; decide)
  simp only [hq.ep] at hp
  have hof2 : ∀ i, s2.of i → w.heap.size ≤ i := fun i hi => (hq.new i hi).elim (HO1.out i) (fun h => Nat.le_trans HB1.out.size h)
  have HP2 := Lib.hid hp
  have HB2 := Lib.hid hb2
  have HO2 := Lib.hid hof2
  have HG2 := Lib.hid hg2
  have HQ := Lib.hid hq
  clear hput1 hr2 hb2 hg2 hp hof2 hq
  go_wp2_with (fail)
  refine HP2.out.mono ?_
  rintro e w3 ⟨s3, rfl, hq⟩
  have hput2 : putE (getR s2.rows ⟨1, 0⟩) 4 = 1 := by rw [HG2.out]; rfl
  rw [hput2]
  have hr3 := hq.no (by rw [HG2.out]; rfl)
  have hg3 : getR s3.rows ⟨1, 0⟩ = [⟨4, ⟨#[120]⟩⟩] := by rw [hr3]; exact HG2.out
  have hb3 := HB2.out.trans (hq.but.to_below HO2.out HB2.out.size)
  have hl := lastS_calls s3 ⟨1, 0⟩ w3 hq.at_
  rw [hg3, show lastV ([⟨4, ⟨#[120]⟩⟩] : List VerS) = ⟨#[120]⟩ from rfl, show lastM ([⟨4, ⟨#[120]⟩⟩] : List VerS) = 4 from rfl, show decide (0 < ([⟨4, ⟨#[120]⟩⟩] : List VerS).length) = true from rfl, hq.ep, HQ.out.ep] at hl
  simp only at hl
  have hn3 : s3.n = 3 := by rw [hq.en, HQ.out.en, HN1.out]
  have hep3 : s3.p = s.p := by rw [hq.ep, HQ.out.ep]
  have HL := Lib.hid hl
  have HB3 := Lib.hid hb3
  have HS3 := Lib.hid hq.at_
  have HN3 := Lib.hid hn3
  have HE3 := Lib.hid hep3
  clear hput2 hr3 hg3 hb3 hl hn3 hep3 hq
  go_wp2_with (fail)
  refine HL.out.mono ?_
  rintro e w4 ⟨rfl, hb4⟩
  have hb34 := HB3.out.trans (hb4.mono HB3.out.size)
  have hpl := plain_errV 1 1 w4 (by decide) (by decide) (HG0.out.below hb34)
  rw [show ((1 : Int) == 1) = true from rfl, show errV 1 = .iface 100 (.int .i64 1) from rfl] at hpl
  rw [show errV 1 = .iface 100 (.int .i64 1) from rfl]
  have HPL := Lib.hid hpl
  have HB4 := Lib.hid hb34
  have HS4 := Lib.hid (HS3.out.below hb4)
  clear hb34 hpl hb4
  go_wp2_with (fail)
  refine HPL.out.mono ?_
  rintro e w5 ⟨rfl, hb5⟩
  have hs5 := HS4.out.below hb5
  have hsc := shards_calls s3 w5 hs5
  rw [HN3.out, HE3.out] at hsc
  have HSC := Lib.hid hsc
  have HB5 := Lib.hid (HB4.out.trans (hb5.mono HB4.out.size))
  clear hs5 hsc hb5
  go_wp2_with (fail)
  refine HSC.out.mono ?_
  rintro e w6 ⟨rfl, rfl⟩
  go_wp2
  go_ret
  exact ⟨rfl, HB5.out⟩
set_option maxRecDepth 100000 in
set_option maxHeartbeats 2000000 in
theorem lawHash_calls (k : Key) (n : Int) (w : World) (hG : HG w) : Calls Tryz.prog 53 #[.agg #[.int .i64 k.acc, .int .i64 k.ast], .int .i64 n] w fun e w' => e = .returned (.bool true) ∧ Below w.heap.size w w' := by
  have hb0 : Below w.heap.size w (w.alloc (.cells #[.int .i64 k.acc, .int .i64 k.ast] 33)) := (Below.refl _ _).alloc (Nat.le_refl _) _
  have hB := Blk.new w 33 #[.int .i64 k.acc, .int .i64 k.ast]
  obtain ⟨W, hW⟩ : ∃ X, w.alloc (.cells #[.int .i64 k.acc, .int .i64 k.ast] 33) = X := ⟨_, rfl⟩
  obtain ⟨g, hg⟩ : ∃ g, w.heap.size = g := ⟨_, rfl⟩
  rw [hW] at hb0 hB
  have hd : Below w.heap.size w W.drew := hb0.drew
  rw [hg] at hB
  have q0 : W.cell? ⟨g, 0, none⟩ = some (.int .i64 k.acc) := hB.cell 0
  have q1 : W.cell? ⟨g, 1, none⟩ = some (.int .i64 k.ast) := hB.cell 1
  have r0 : W.drew.cell? ⟨g, 0, none⟩ = some (.int .i64 k.acc) := q0
  have r1 : W.drew.cell? ⟨g, 1, none⟩ = some (.int .i64 k.ast) := q1
  have h1 := fun w => hash_calls k w
  have h2 := fun w => rhash_calls k w
  have h3 := fun w => shard_calls k n w
  have h4 := fun w => rshard_calls k n w
  obtain ⟨x, hx⟩ : ∃ x, hashV k = x := ⟨_, rfl⟩
  obtain ⟨y, hy⟩ : ∃ y, shardOf k (cntS n) = y := ⟨_, rfl⟩
  simp only [hx] at h1 h2
  simp only [hy] at h3 h4
  have H1 := Lib.hid h1
  have H2 := Lib.hid h2
  have H3 := Lib.hid h3
  have H4 := Lib.hid h4
  have HB := Lib.hid hd
  have HW := Lib.hid hW
  have HG2 := Lib.hid hg
  have HG := Lib.hid hG
  clear h1 h2 h3 h4 hd hW hg hG hx hy hb0 hB
  go_enter Tryz.func53, Tryz.ntmps53
  go_wp2_with (fail)
  rw [HW.out, HG2.out]
  go_region_held3 (fun w' => w'.cell? ⟨g, 0, none⟩ = some (.int .i64 k.acc) ∧ w'.cell? ⟨g, 1, none⟩ = some (.int .i64 k.ast))
    (first | go_keep | fail)
    (first
      | (go_at_call 50; refine (H1.out _).mono ?_; rintro e w4 ⟨rfl, hb4⟩; have r0 : w4.cell? ⟨g, 0, none⟩ = some (.int .i64 k.acc) := cell_below hb4 (by assumption); have r1 : w4.cell? ⟨g, 1, none⟩ = some (.int .i64 k.ast) := cell_below hb4 (by assumption); have HB := Lib.hid (HB.out.trans (hb4.mono HB.out.size)); clear hb4)
      | (go_at_call 81; refine (H2.out _).mono ?_; rintro e w4 ⟨rfl, hb4⟩; have r0 : w4.cell? ⟨g, 0, none⟩ = some (.int .i64 k.acc) := cell_below hb4 (by assumption); have r1 : w4.cell? ⟨g, 1, none⟩ = some (.int .i64 k.ast) := cell_below hb4 (by assumption); have HB := Lib.hid (HB.out.trans (hb4.mono HB.out.size)); clear hb4)
      | (go_at_call 51; refine (H3.out _).mono ?_; rintro e w4 ⟨rfl, hb4⟩; have r0 : w4.cell? ⟨g, 0, none⟩ = some (.int .i64 k.acc) := cell_below hb4 (by assumption); have r1 : w4.cell? ⟨g, 1, none⟩ = some (.int .i64 k.ast) := cell_below hb4 (by assumption); have HB := Lib.hid (HB.out.trans (hb4.mono HB.out.size)); clear hb4)
      | (go_at_call 82; refine (H4.out _).mono ?_; rintro e w4 ⟨rfl, hb4⟩; have r0 : w4.cell? ⟨g, 0, none⟩ = some (.int .i64 k.acc) := cell_below hb4 (by assumption); have r1 : w4.cell? ⟨g, 1, none⟩ = some (.int .i64 k.ast) := cell_below hb4 (by assumption); have HB := Lib.hid (HB.out.trans (hb4.mono HB.out.size)); clear hb4)
      | (go_at_call 8; refine (worksS_calls _ (HG.out.below HB.out)).mono ?_; rintro e w4 ⟨rfl, hb4⟩; have r0 : w4.cell? ⟨g, 0, none⟩ = some (.int .i64 k.acc) := cell_below hb4 (by assumption); have r1 : w4.cell? ⟨g, 1, none⟩ = some (.int .i64 k.ast) := cell_below hb4 (by assumption); have HB := Lib.hid (HB.out.trans (hb4.mono HB.out.size)); clear hb4))
  go_wp2
  go_ret
  exact ⟨rfl, HB.out⟩
end Go.Proofs.YtflkddllofeiaaaGreatDoor
