/- StoreKnown: its walk (printed by gen_kn11.py). -/
import Derived.Test.YtflkddllofeiaaaGreatDoorKs11
namespace Go.Proofs.YtflkddllofeiaaaGreatDoor
open Go.RowKit Go.MapKept Go.ChangeMaps Go.Maps
set_option linter.unusedVariables false
set_option linter.unusedSimpArgs false

theorem hashA : hashV ⟨0, 0⟩ = 9808874869469701221 := by decide +kernel
theorem hashB : hashV ⟨1, 2⟩ = 17633220212635757292 := by decide +kernel
theorem hashC : hashV ⟨-1, 7⟩ = 8650659753387173368 := by decide +kernel
theorem shardB : shardOf ⟨1, 2⟩ (cntS 100) = 44 := by decide +kernel
theorem errV0 : errV 0 = .nilIface := errV_zero
theorem errV1 : errV 1 = .iface 100 (.int .i64 1) := errV_pos (by decide)
set_option maxRecDepth 100000 in
set_option maxHeartbeats 8000000 in
theorem shown_calls (w0 : World) (hG : HG w0) : Calls Tryz.prog 19 #[] w0 fun e w' => e = .returned (.bool true) ∧ Below w0.heap.size w0 w' := by
  have HGG := Lib.hid hG
  clear hG
  go_enter Tryz.func19, Tryz.ntmps19
  have hh1 := hash_calls ⟨0, 0⟩ w0
  rw [hashA] at hh1
  have HH1 := Lib.hid hh1
  clear hh1
  go_wp2_with (fail)
  refine HH1.out.mono ?_
  rintro e w1 ⟨rfl, hb1⟩
  have HB1 := Lib.hid (hb1)
  clear hb1 HH1
  have hh2 := hash_calls ⟨1, 2⟩ w1
  rw [hashB] at hh2
  have HH2 := Lib.hid hh2
  clear hh2
  go_wp2_with (fail)
  refine HH2.out.mono ?_
  rintro e w2 ⟨rfl, hb2⟩
  have HB2 := Lib.hid (below_after HB1.out hb2)
  clear hb2 HH2
  have hh3 := hash_calls ⟨-1, 7⟩ w2
  rw [hashC] at hh3
  have HH3 := Lib.hid hh3
  clear hh3
  go_wp2_with (fail)
  refine HH3.out.mono ?_
  rintro e w3 ⟨rfl, hb3⟩
  have HB3 := Lib.hid (below_after HB2.out hb3)
  clear hb3 HH3
  have hh4 := shard_calls ⟨1, 2⟩ 100 w3
  rw [shardB] at hh4
  have HH4 := Lib.hid hh4
  clear hh4
  go_wp2_with (fail)
  refine HH4.out.mono ?_
  rintro e w4 ⟨rfl, hb4⟩
  have HB4 := Lib.hid (below_after HB3.out hb4)
  clear hb4 HH4
  go_wp2_with (fail)
  refine (newS_calls 4 w4).mono ?_
  rintro e w5 ⟨s, rfl, hs1, hsn, hsc, hsR, hsb, hb5, ho5⟩
  have hsb0 := newS_SB (w0 := w0) (na := 4) hs1 (by rw [hsn]; rfl) hsc hsR hsb (below_after HB4.out hb5) (fun i hi => Nat.le_trans HB4.out.size (ho5 i hi))
  obtain ⟨p, hp⟩ : ∃ p, s.p = p := ⟨_, rfl⟩
  obtain ⟨g, hg⟩ : ∃ g, w5.heap.size = g := ⟨_, rfl⟩
  obtain ⟨W0, hW0⟩ : ∃ X, w5.alloc (.cells #[.int .i64 3, .int .i64 1] 33) = X := ⟨_, rfl⟩
  rw [hp, hg, hW0] at hsb0
  have HP := Lib.hid hp
  have HG5 := Lib.hid hg
  have HW0 := Lib.hid hW0
  have H0 : Hid (SB w0 W0 p 4 ⟨[], [], 0⟩ g) := Lib.hid hsb0
  clear hs1 hsn hsc hsR hsb hb5 ho5 hsb0 hp hg hW0
  rw [HP.out]
  go_wp2_with (fail)
  rw [HW0.out, HG5.out]
  go_wp2_with (fail)
  refine H0.out.shards.mono ?_
  rintro e v1 ⟨rfl, hv⟩
  have H1 := Lib.hid (hv ▸ H0.out)
  clear hv
  have hc1 := H1.out.keys0 rfl
  have HC1 := Lib.hid hc1
  clear hc1
  go_wp2_with (fail)
  refine HC1.out.mono ?_
  rintro e v2 ⟨ka, kc, rfl, hv⟩
  have H2 := Lib.hid hv
  clear hv
  clear HC1
  have q20 : v2.cell? ⟨g, 0, none⟩ = some (.int .i64 3) := H2.out.key.cell 0
  have q21 : v2.cell? ⟨g, 1, none⟩ = some (.int .i64 1) := H2.out.key.cell 1
  have hc2 := H2.out.put ⟨3, 1⟩ 1 ⟨#[97]⟩ 0 ⟨[(⟨3, 1⟩, [⟨1, ⟨#[97]⟩⟩])], [], 0⟩ (by decide) (by rfl) (by rfl)
  rw [errV0] at hc2
  have HC2 := Lib.hid hc2
  clear hc2
  go_wp2_with (fail)
  refine HC2.out.mono ?_
  rintro e v3 ⟨rfl, hv⟩
  have H3 := Lib.hid hv
  clear hv
  clear HC2 q20 q21
  have q30 : v3.cell? ⟨g, 0, none⟩ = some (.int .i64 3) := H3.out.key.cell 0
  have q31 : v3.cell? ⟨g, 1, none⟩ = some (.int .i64 1) := H3.out.key.cell 1
  have hc3 := H3.out.put ⟨3, 1⟩ 3 ⟨#[98]⟩ 0 ⟨[(⟨3, 1⟩, [⟨1, ⟨#[97]⟩⟩, ⟨3, ⟨#[98]⟩⟩])], [], 0⟩ (by decide) (by rfl) (by rfl)
  rw [errV0] at hc3
  have HC3 := Lib.hid hc3
  clear hc3
  go_wp2_with (fail)
  refine HC3.out.mono ?_
  rintro e v4 ⟨rfl, hv⟩
  have H4 := Lib.hid hv
  clear hv
  clear HC3 q30 q31
  have q40 : v4.cell? ⟨g, 0, none⟩ = some (.int .i64 3) := H4.out.key.cell 0
  have q41 : v4.cell? ⟨g, 1, none⟩ = some (.int .i64 1) := H4.out.key.cell 1
  have hc4 := H4.out.put ⟨3, 1⟩ 3 ⟨#[99]⟩ 1 ⟨[(⟨3, 1⟩, [⟨1, ⟨#[97]⟩⟩, ⟨3, ⟨#[98]⟩⟩])], [], 0⟩ (by decide) (by rfl) (by rfl)
  rw [errV1] at hc4
  have HC4 := Lib.hid hc4
  clear hc4
  go_wp2_with (fail)
  refine HC4.out.mono ?_
  rintro e v5 ⟨rfl, hv⟩
  have H5 := Lib.hid hv
  clear hv
  clear HC4 q40 q41
  have hpl := plain_errV 1 1 v5 (by decide) (by decide) (HGG.out.below H5.out.bel)
  rw [errV1] at hpl
  have HPL := Lib.hid hpl
  clear hpl
  go_wp2_with (fail)
  refine HPL.out.mono ?_
  rintro e v6 ⟨rfl, hb⟩
  have H6 := Lib.hid (H5.out.below hb)
  clear hb HPL
  have q60 : v6.cell? ⟨g, 0, none⟩ = some (.int .i64 3) := H6.out.key.cell 0
  have q61 : v6.cell? ⟨g, 1, none⟩ = some (.int .i64 1) := H6.out.key.cell 1
  have hc6 := H6.out.put ⟨3, 1⟩ 5 ⟨#[100]⟩ 0 ⟨[(⟨3, 1⟩, [⟨1, ⟨#[97]⟩⟩, ⟨3, ⟨#[98]⟩⟩, ⟨5, ⟨#[100]⟩⟩])], [], 0⟩ (by decide) (by rfl) (by rfl)
  rw [errV0] at hc6
  have HC6 := Lib.hid hc6
  clear hc6
  go_wp2_with (fail)
  refine HC6.out.mono ?_
  rintro e v7 ⟨rfl, hv⟩
  have H7 := Lib.hid hv
  clear hv
  clear HC6 q60 q61
  have hc7 := H7.out.open_ 2 (by decide) 1 ⟨[(⟨3, 1⟩, [⟨1, ⟨#[97]⟩⟩, ⟨3, ⟨#[98]⟩⟩, ⟨5, ⟨#[100]⟩⟩])], [(1, 2)], 1⟩ (by rfl) (by rfl)
  have HC7 := Lib.hid hc7
  clear hc7
  go_wp2_with (fail)
  refine HC7.out.mono ?_
  rintro e v8 ⟨rfl, hv⟩
  have H8 := Lib.hid hv
  clear hv
  clear HC7
  have hc8 := H8.out.open_ 9 (by decide) 2 ⟨[(⟨3, 1⟩, [⟨1, ⟨#[97]⟩⟩, ⟨3, ⟨#[98]⟩⟩, ⟨5, ⟨#[100]⟩⟩])], [(1, 2), (2, 9)], 2⟩ (by rfl) (by rfl)
  have HC8 := Lib.hid hc8
  clear hc8
  go_wp2_with (fail)
  refine HC8.out.mono ?_
  rintro e v9 ⟨rfl, hv⟩
  have H9 := Lib.hid hv
  clear hv
  clear HC8
  have hc9 := H9.out.oldest 7 2 (by rfl)
  have HC9 := Lib.hid hc9
  clear hc9
  go_wp2_with (fail)
  refine HC9.out.mono ?_
  rintro e v10 ⟨rfl, hv⟩
  have H10 := Lib.hid hv
  clear hv
  clear HC9
  have hc10 := H10.out.oldest 1 1 (by rfl)
  have HC10 := Lib.hid hc10
  clear hc10
  go_wp2_with (fail)
  refine HC10.out.mono ?_
  rintro e v11 ⟨rfl, hv⟩
  have H11 := Lib.hid hv
  clear hv
  clear HC10
  have q110 : v11.cell? ⟨g, 0, none⟩ = some (.int .i64 3) := H11.out.key.cell 0
  have q111 : v11.cell? ⟨g, 1, none⟩ = some (.int .i64 1) := H11.out.key.cell 1
  have hc11 := H11.out.prune ⟨3, 1⟩ 5 0 ⟨[(⟨3, 1⟩, [⟨1, ⟨#[97]⟩⟩, ⟨3, ⟨#[98]⟩⟩, ⟨5, ⟨#[100]⟩⟩])], [(1, 2), (2, 9)], 2⟩ (by rfl) (by rfl)
  have HC11 := Lib.hid hc11
  clear hc11
  go_wp2_with (fail)
  refine HC11.out.mono ?_
  rintro e v12 ⟨rfl, hv⟩
  have H12 := Lib.hid hv
  clear hv
  clear HC11 q110 q111
  have hc12 := H12.out.versions 3 (by rfl) (by decide)
  have HC12 := Lib.hid hc12
  clear hc12
  go_wp2_with (fail)
  refine HC12.out.mono ?_
  rintro e v13 ⟨rfl, hv⟩
  have H13 := Lib.hid hv
  clear hv
  clear HC12
  have q130 : v13.cell? ⟨g, 0, none⟩ = some (.int .i64 3) := H13.out.key.cell 0
  have q131 : v13.cell? ⟨g, 1, none⟩ = some (.int .i64 1) := H13.out.key.cell 1
  have hc13 := H13.out.at_ ⟨3, 1⟩ 2 ⟨#[97]⟩ true (by rfl) (by rfl)
  have HC13 := Lib.hid hc13
  clear hc13
  go_wp2_with (fail)
  refine HC13.out.mono ?_
  rintro e v14 ⟨rfl, hv⟩
  have H14 := Lib.hid hv
  clear hv
  clear HC13 q130 q131
  have hc14 := H14.out.close 1 (wfI_of (by decide) (by decide)) true ⟨[(⟨3, 1⟩, [⟨1, ⟨#[97]⟩⟩, ⟨3, ⟨#[98]⟩⟩, ⟨5, ⟨#[100]⟩⟩])], [(2, 9)], 2⟩ (by rfl) (by rfl)
  have HC14 := Lib.hid hc14
  clear hc14
  go_wp2_with (fail)
  refine HC14.out.mono ?_
  rintro e v15 ⟨rfl, hv⟩
  have H15 := Lib.hid hv
  clear hv
  clear HC14
  have hc15 := H15.out.close 1 (wfI_of (by decide) (by decide)) false ⟨[(⟨3, 1⟩, [⟨1, ⟨#[97]⟩⟩, ⟨3, ⟨#[98]⟩⟩, ⟨5, ⟨#[100]⟩⟩])], [(2, 9)], 2⟩ (by rfl) (by rfl)
  have HC15 := Lib.hid hc15
  clear hc15
  go_wp2_with (fail)
  refine HC15.out.mono ?_
  rintro e v16 ⟨rfl, hv⟩
  have H16 := Lib.hid hv
  clear hv
  clear HC15
  have hc16 := H16.out.close 3 (wfI_of (by decide) (by decide)) false ⟨[(⟨3, 1⟩, [⟨1, ⟨#[97]⟩⟩, ⟨3, ⟨#[98]⟩⟩, ⟨5, ⟨#[100]⟩⟩])], [(2, 9)], 2⟩ (by rfl) (by rfl)
  have HC16 := Lib.hid hc16
  clear hc16
  go_wp2_with (fail)
  refine HC16.out.mono ?_
  rintro e v17 ⟨rfl, hv⟩
  have H17 := Lib.hid hv
  clear hv
  clear HC16
  have hc17 := H17.out.oldest 7 7 (by rfl)
  have HC17 := Lib.hid hc17
  clear hc17
  go_wp2_with (fail)
  refine HC17.out.mono ?_
  rintro e v18 ⟨rfl, hv⟩
  have H18 := Lib.hid hv
  clear hv
  clear HC17
  have q180 : v18.cell? ⟨g, 0, none⟩ = some (.int .i64 3) := H18.out.key.cell 0
  have q181 : v18.cell? ⟨g, 1, none⟩ = some (.int .i64 1) := H18.out.key.cell 1
  have hc18 := H18.out.prune ⟨3, 1⟩ 4 1 ⟨[(⟨3, 1⟩, [⟨3, ⟨#[98]⟩⟩, ⟨5, ⟨#[100]⟩⟩])], [(2, 9)], 2⟩ (by rfl) (by rfl)
  have HC18 := Lib.hid hc18
  clear hc18
  go_wp2_with (fail)
  refine HC18.out.mono ?_
  rintro e v19 ⟨rfl, hv⟩
  have H19 := Lib.hid hv
  clear hv
  clear HC18 q180 q181
  have q190 : v19.cell? ⟨g, 0, none⟩ = some (.int .i64 3) := H19.out.key.cell 0
  have q191 : v19.cell? ⟨g, 1, none⟩ = some (.int .i64 1) := H19.out.key.cell 1
  have hc19 := H19.out.at_ ⟨3, 1⟩ 2 ByteArray.empty false (by rfl) (by rfl)
  have HC19 := Lib.hid hc19
  clear hc19
  go_wp2_with (fail)
  refine HC19.out.mono ?_
  rintro e v20 ⟨rfl, hv⟩
  have H20 := Lib.hid hv
  clear hv
  clear HC19 q190 q191
  have q200 : v20.cell? ⟨g, 0, none⟩ = some (.int .i64 3) := H20.out.key.cell 0
  have q201 : v20.cell? ⟨g, 1, none⟩ = some (.int .i64 1) := H20.out.key.cell 1
  have hc20 := H20.out.last ⟨3, 1⟩ ⟨#[100]⟩ 5 true (by rfl) (by rfl) (by rfl)
  have HC20 := Lib.hid hc20
  clear hc20
  go_wp2_with (fail)
  refine HC20.out.mono ?_
  rintro e v21 ⟨rfl, hv⟩
  have H21 := Lib.hid hv
  clear hv
  clear HC20 q200 q201
  have hc21 := H21.out.versions 2 (by rfl) (by decide)
  have HC21 := Lib.hid hc21
  clear hc21
  go_wp2_with (fail)
  refine HC21.out.mono ?_
  rintro e v22 ⟨rfl, hv⟩
  have H22 := Lib.hid hv
  clear hv
  clear HC21
  go_wp2_with (fail)
  refine (worksS_calls v22 (HGG.out.below H22.out.bel)).mono ?_
  rintro e v23 ⟨rfl, hb⟩
  have HZ := Lib.hid (below_after H22.out.bel hb)
  clear hb
  go_wp2_with (fail)
  go_ret
  exact ⟨rfl, HZ.out⟩
set_option maxRecDepth 100000 in
theorem lawKnown_calls (w0 : World) (hG : HG w0) : Calls Tryz.prog 4 #[] w0 fun e w' => e = .returned (.bool true) ∧ Below w0.heap.size w0 w' := by
  have HGG := Lib.hid hG
  clear hG
  go_enter Tryz.func4, Tryz.ntmps4
  go_wp2_with (fail)
  refine (shown_calls w0 HGG.out).mono ?_
  rintro e w1 ⟨rfl, hb1⟩
  have HB1 := Lib.hid hb1
  clear hb1
  go_wp2_with (fail)
  refine (edged_calls w1 (HGG.out.below HB1.out)).mono ?_
  rintro e w2 ⟨rfl, hb2⟩
  have HB2 := Lib.hid (below_after HB1.out hb2)
  clear hb2
  go_wp2_with (fail)
  go_ret
  exact ⟨rfl, HB2.out⟩
end Go.Proofs.YtflkddllofeiaaaGreatDoor
