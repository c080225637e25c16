/- QueueScript: its walk (printed by gen_scw19.py). -/
import Derived.Test.YtmcknfpohnobdaaDoorTx19
import Derived.Deep.RegionHeld3
import Derived.Deep.DeepCutAuto
import Derived.Deep.CutBlock
namespace Go.Proofs.YtmcknfpohnobdaaDoor
open Go.RowKit Go.MapKept Go.ChangeMaps Go.Maps
set_option linter.unusedVariables false
set_option linter.unusedSimpArgs false

set_option maxRecDepth 100000 in
set_option maxHeartbeats 16000000 in
theorem lawScript_calls (r0 r1 : Int) (os : List OpQ) (A : Option Addr) (c : Nat) (w0 : World) (hr : Reads w0 w0.heap.size 4 A os.length (os.flatMap OpQ.cs)) (hq : ∀ x ∈ os, KeysIn w0 w0.heap.size x.A x.c x.keys ∧ wfI x.id) (hl : os.length ≤ 2932031007317) (hG : HG w0) :
    Calls Tryd.prog 3 #[.agg #[.int .i64 r0, .int .i64 r1], .slice A os.length c] w0 fun e w' => e = .returned (.bool true) ∧ Below w0.heap.size w0 w' := by
  obtain ⟨iL, hiL, hzL0, hzL1, hzL2⟩ := info_parts infoIntsT
  have HR := Lib.hid hr
  have HQ := Lib.hid hq
  have HGG := Lib.hid hG
  clear hr hq hG
  obtain ⟨W1, hW1⟩ : ∃ X, w0.alloc (.cells #[.int .i64 r0, .int .i64 r1] 22) = X := ⟨_, rfl⟩
  obtain ⟨g, hg⟩ : ∃ g, w0.heap.size = g := ⟨_, rfl⟩
  have hb1 : Below w0.heap.size w0 W1 := hW1 ▸ (Below.refl _ _).alloc (Nat.le_refl _) _
  have hk1 : Blk W1 g 22 #[.int .i64 r0, .int .i64 r1] := hg ▸ hW1 ▸ Blk.new w0 _ _
  have HW1 := Lib.hid hW1
  have HG1 := Lib.hid hg
  have HB1 := Lib.hid hb1
  have HK1 := Lib.hid hk1
  clear hW1 hg hb1 hk1
  go_enter Tryd.func3, Tryd.ntmps3
  go_upto_region 1 with fail
  rw [HW1.out, HG1.out]
  have k0 : W1.cell? ⟨g, 0, none⟩ = some (.int .i64 r0) := HK1.out.cell 0
  have k1 : W1.cell? ⟨g, 1, none⟩ = some (.int .i64 r1) := HK1.out.cell 1
  go_cut [5] from 14 to 20 (fun v wx => PairQ W1 wx r0 r1 v)
  case first =>
    as_aux_lemma =>
    go_region_held3 (fun w' => w'.cell? ⟨g, 0, none⟩ = some (.int .i64 r0) ∧ w'.cell? ⟨g, 1, none⟩ = some (.int .i64 r1))
      (first | go_keep | (have hn : g ≠ wA.heap.size := Nat.ne_of_lt HKA.out.lt; have hf := (HKB.out.far (p := ⟨wA.heap.size, 0, none⟩) hn (.pointer (some ⟨p0, 0, none⟩))).far (p := ⟨wA.heap.size, 1, none⟩) hn (.pointer (some ⟨p1, 0, none⟩)); exact ⟨hf.cell 0, hf.cell 1⟩) | (have hn : g ≠ W1.heap.size := Nat.ne_of_lt HK1.out.lt; have hf := (HKB.out.far (p := ⟨W1.heap.size, 0, none⟩) hn (.pointer (some ⟨p0, 0, none⟩))).far (p := ⟨W1.heap.size, 1, none⟩) hn (.pointer (some ⟨p1, 0, none⟩)); exact ⟨hf.cell 0, hf.cell 1⟩))
      (first
        | (go_at_call 5; refine (newQ_calls r0 (W1.alloc (.cells #[.pointer none, .pointer none] 26)).drew).mono ?_; rintro e wA ⟨p0, bi0, bw0, rfl, hq0, hbA, hoA⟩; unfold eP; have hA9 : Blk wA W1.heap.size 26 #[.pointer none, .pointer none] := (Blk.new W1 26 #[.pointer none, .pointer none]).drew.below hbA (Blk.new W1 26 #[.pointer none, .pointer none]).lt; have hka := ((HK1.out.alloc (.cells #[.pointer none, .pointer none] 26)).drew).below hbA (HK1.out.alloc _).lt; have kwA0 : wA.cell? ⟨g, 0, none⟩ = some (.int .i64 r0) := hka.cell 0; have kwA1 : wA.cell? ⟨g, 1, none⟩ = some (.int .i64 r1) := hka.cell 1; have HKA := Lib.hid hka; have HA9 := Lib.hid hA9; clear hka hA9)
        | (go_at_call 5; refine (newQ_calls r0 W1.drew).mono ?_; rintro e wA ⟨p0, bi0, bw0, rfl, hq0, hbA, hoA⟩; unfold eP; have hka := HK1.out.drew.below hbA HK1.out.lt; have kwA0 : wA.cell? ⟨g, 0, none⟩ = some (.int .i64 r0) := hka.cell 0; have kwA1 : wA.cell? ⟨g, 1, none⟩ = some (.int .i64 r1) := hka.cell 1; have kA2 : (wA.alloc (.cells #[.pointer none, .pointer none] 26)).cell? ⟨g, 0, none⟩ = some (.int .i64 r0) := (hka.alloc _).cell 0; have kA3 : (wA.alloc (.cells #[.pointer none, .pointer none] 26)).cell? ⟨g, 1, none⟩ = some (.int .i64 r1) := (hka.alloc _).cell 1; have HKA := Lib.hid hka; clear hka)
        | (go_at_call 5; refine (newQ_calls r1 wA).mono ?_; rintro e wB ⟨p1, bi1, bw1, rfl, hq1, hbB, hoB⟩; unfold eP; have hB9 := HA9.out.below hbB HA9.out.lt; have hkb := HKA.out.below hbB HKA.out.lt; have kwB0 : wB.cell? ⟨g, 0, none⟩ = some (.int .i64 r0) := hkb.cell 0; have kwB1 : wB.cell? ⟨g, 1, none⟩ = some (.int .i64 r1) := hkb.cell 1; have c0 := hB9.cell 0; have c1 := hB9.cell 1; have f0 := hB9.frozen 0; have f1 := hB9.frozen 1; have HB9 := Lib.hid hB9; have HKB := Lib.hid hkb; clear hkb hB9)
        | (go_at_call 5; refine (newQ_calls r1 (wA.alloc (.cells #[.pointer none, .pointer none] 26))).mono ?_; rintro e wB ⟨p1, bi1, bw1, rfl, hq1, hbB, hoB⟩; unfold eP; have hB9 := (Blk.new wA 26 #[.pointer none, .pointer none]).below hbB (Blk.new wA 26 #[.pointer none, .pointer none]).lt; have hkb := (HKA.out.alloc (.cells #[.pointer none, .pointer none] 26)).below hbB (HKA.out.alloc _).lt; have kwB0 : wB.cell? ⟨g, 0, none⟩ = some (.int .i64 r0) := hkb.cell 0; have kwB1 : wB.cell? ⟨g, 1, none⟩ = some (.int .i64 r1) := hkb.cell 1; have c0 := hB9.cell 0; have c1 := hB9.cell 1; have f0 := hB9.frozen 0; have f1 := hB9.frozen 1; have HB9 := Lib.hid hB9; have HKB := Lib.hid hkb; clear hkb hB9)
        | (go_at_call 5; refine (newQ_calls r1 wA).mono ?_; rintro e wB ⟨p1, bi1, bw1, rfl, hq1, hbB, hoB⟩; unfold eP; have hkb := HKA.out.below hbB HKA.out.lt; have kwB0 : wB.cell? ⟨g, 0, none⟩ = some (.int .i64 r0) := hkb.cell 0; have kwB1 : wB.cell? ⟨g, 1, none⟩ = some (.int .i64 r1) := hkb.cell 1; have kB2 : (wB.alloc (.cells #[.pointer none, .pointer none] 26)).cell? ⟨g, 0, none⟩ = some (.int .i64 r0) := (hkb.alloc _).cell 0; have kB3 : (wB.alloc (.cells #[.pointer none, .pointer none] 26)).cell? ⟨g, 1, none⟩ = some (.int .i64 r1) := (hkb.alloc _).cell 1; have HKB := Lib.hid hkb; clear hkb))
    · go_wp2
      go_meet
      case rel => exact pairQ_new (hq0.below hbB) hq1 (fun i h h' => by have h1 := QAt.lt hq0 h; have h2 := hoB i h'; (try simp at h2); omega) (fun i hi => by have h1 := hoA i hi; simpa using h1) (fun i hi => by have h1 := hoB i hi; have h2 := hbA.size; simp at h2; omega) (((Below.refl W1.heap.size W1).drew.trans hbA).trans (hbB.mono (by have h2 := hbA.size; simp at h2; omega)))
    · go_wp2
      go_meet
      case rel => exact pairQ_set HB9.out (hq0.below (((Below.refl wA.heap.size wA).alloc (Nat.le_refl _) _).trans (hbB.mono (by simp)))) hq1 (fun i h h' => by have h1 := QAt.lt hq0 h; have h2 := hoB i h'; (try simp at h2); omega) (fun i hi => by have h1 := hoA i hi; have h2 := QAt.lt hq0 hi; simp at h1; exact ⟨h1, by omega⟩) (fun i hi => by have h1 := hoB i hi; have h2 := hbA.size; simp at h1 h2; exact ⟨by omega, by omega⟩) (by have h2 := hbA.size; simp at h2; omega) (((Below.refl W1.heap.size W1).drew.trans hbA).trans ((((Below.refl wA.heap.size wA).alloc (Nat.le_refl _) _).trans (hbB.mono (by simp))).mono (by have h2 := hbA.size; simp at h2; omega)))
    · go_wp2
      go_meet
      case rel => exact pairQ_set HB9.out (hq0.below hbB) hq1 (fun i h h' => by have h1 := QAt.lt hq0 h; have h2 := hoB i h'; (try simp at h2); omega) (fun i hi => by have h1 := hoA i hi; simp at h1; exact ⟨by omega, by omega⟩) (fun i hi => by have h1 := hoB i hi; have h2 := hbA.size; simp at h1 h2; exact ⟨by omega, by omega⟩) (Nat.le_refl _) (((((Below.refl W1.heap.size W1).alloc (Nat.le_refl _) _).drew).trans (hbA.mono (by simp))).trans (hbB.mono (by have h2 := hbA.size; simp at h2; omega)))
  case rest =>
    rename World => w1
    have hbw : Below W1.heap.size W1 w1 := by
      obtain ⟨_, _, _, _, _, _, _, _, _, _, _, _, _, _, _, h⟩ := hcut
      exact h
    have hvx : ∃ gx, u5 = .pointer (some ⟨gx, 0, none⟩) := by
      obtain ⟨gx, _, _, _, _, _, _, h, _⟩ := hcut
      exact ⟨gx, h⟩
    obtain ⟨gx, rfl⟩ := hvx
    have hkc := HK1.out.below hbw HK1.out.lt
    have HK9 := HK1
    have HPQ := Lib.hid hcut
    clear k0 k1 HK1 hcut hbw
    have k0 : w1.cell? ⟨g, 0, none⟩ = some (.int .i64 r0) := hkc.cell 0
    have k1 : w1.cell? ⟨g, 1, none⟩ = some (.int .i64 r1) := hkc.cell 1
    have HK1 := Lib.hid hkc
    clear hkc
    go_upto_region 2 with fail
    go_cut [6] from 21 to 27 (fun v wx => PairR w1 wx r0 r1 v)
    case first =>
      as_aux_lemma =>
      go_region_held3 (fun w' => w'.cell? ⟨g, 0, none⟩ = some (.int .i64 r0) ∧ w'.cell? ⟨g, 1, none⟩ = some (.int .i64 r1))
        (first | go_keep | (have hn : g ≠ wA.heap.size := Nat.ne_of_lt HKA.out.lt; have hf := (HKB.out.far (p := ⟨wA.heap.size, 0, none⟩) hn (.pointer (some ⟨p0, 0, none⟩))).far (p := ⟨wA.heap.size, 1, none⟩) hn (.pointer (some ⟨p1, 0, none⟩)); exact ⟨hf.cell 0, hf.cell 1⟩) | (have hn : g ≠ w1.heap.size := Nat.ne_of_lt HK1.out.lt; have hf := (HKB.out.far (p := ⟨w1.heap.size, 0, none⟩) hn (.pointer (some ⟨p0, 0, none⟩))).far (p := ⟨w1.heap.size, 1, none⟩) hn (.pointer (some ⟨p1, 0, none⟩)); exact ⟨hf.cell 0, hf.cell 1⟩))
        (first
          | (go_at_call 6; refine (newR_calls r0 (w1.alloc (.cells #[.pointer none, .pointer none] 29)).drew).mono ?_; rintro e wA ⟨p0, rfl, hq0, hbA, hoA⟩; unfold eP; have hA9 : Blk wA w1.heap.size 29 #[.pointer none, .pointer none] := (Blk.new w1 29 #[.pointer none, .pointer none]).drew.below hbA (Blk.new w1 29 #[.pointer none, .pointer none]).lt; have hka := ((HK1.out.alloc (.cells #[.pointer none, .pointer none] 29)).drew).below hbA (HK1.out.alloc _).lt; have kwA0 : wA.cell? ⟨g, 0, none⟩ = some (.int .i64 r0) := hka.cell 0; have kwA1 : wA.cell? ⟨g, 1, none⟩ = some (.int .i64 r1) := hka.cell 1; have HKA := Lib.hid hka; have HA9 := Lib.hid hA9; clear hka hA9)
          | (go_at_call 6; refine (newR_calls r0 w1.drew).mono ?_; rintro e wA ⟨p0, rfl, hq0, hbA, hoA⟩; unfold eP; have hka := HK1.out.drew.below hbA HK1.out.lt; have kwA0 : wA.cell? ⟨g, 0, none⟩ = some (.int .i64 r0) := hka.cell 0; have kwA1 : wA.cell? ⟨g, 1, none⟩ = some (.int .i64 r1) := hka.cell 1; have kA2 : (wA.alloc (.cells #[.pointer none, .pointer none] 29)).cell? ⟨g, 0, none⟩ = some (.int .i64 r0) := (hka.alloc _).cell 0; have kA3 : (wA.alloc (.cells #[.pointer none, .pointer none] 29)).cell? ⟨g, 1, none⟩ = some (.int .i64 r1) := (hka.alloc _).cell 1; have HKA := Lib.hid hka; clear hka)
          | (go_at_call 6; refine (newR_calls r1 wA).mono ?_; rintro e wB ⟨p1, rfl, hq1, hbB, hoB⟩; unfold eP; have hB9 := HA9.out.below hbB HA9.out.lt; have hkb := HKA.out.below hbB HKA.out.lt; have kwB0 : wB.cell? ⟨g, 0, none⟩ = some (.int .i64 r0) := hkb.cell 0; have kwB1 : wB.cell? ⟨g, 1, none⟩ = some (.int .i64 r1) := hkb.cell 1; have c0 := hB9.cell 0; have c1 := hB9.cell 1; have f0 := hB9.frozen 0; have f1 := hB9.frozen 1; have HB9 := Lib.hid hB9; have HKB := Lib.hid hkb; clear hkb hB9)
          | (go_at_call 6; refine (newR_calls r1 (wA.alloc (.cells #[.pointer none, .pointer none] 29))).mono ?_; rintro e wB ⟨p1, rfl, hq1, hbB, hoB⟩; unfold eP; have hB9 := (Blk.new wA 29 #[.pointer none, .pointer none]).below hbB (Blk.new wA 29 #[.pointer none, .pointer none]).lt; have hkb := (HKA.out.alloc (.cells #[.pointer none, .pointer none] 29)).below hbB (HKA.out.alloc _).lt; have kwB0 : wB.cell? ⟨g, 0, none⟩ = some (.int .i64 r0) := hkb.cell 0; have kwB1 : wB.cell? ⟨g, 1, none⟩ = some (.int .i64 r1) := hkb.cell 1; have c0 := hB9.cell 0; have c1 := hB9.cell 1; have f0 := hB9.frozen 0; have f1 := hB9.frozen 1; have HB9 := Lib.hid hB9; have HKB := Lib.hid hkb; clear hkb hB9)
          | (go_at_call 6; refine (newR_calls r1 wA).mono ?_; rintro e wB ⟨p1, rfl, hq1, hbB, hoB⟩; unfold eP; have hkb := HKA.out.below hbB HKA.out.lt; have kwB0 : wB.cell? ⟨g, 0, none⟩ = some (.int .i64 r0) := hkb.cell 0; have kwB1 : wB.cell? ⟨g, 1, none⟩ = some (.int .i64 r1) := hkb.cell 1; have kB2 : (wB.alloc (.cells #[.pointer none, .pointer none] 29)).cell? ⟨g, 0, none⟩ = some (.int .i64 r0) := (hkb.alloc _).cell 0; have kB3 : (wB.alloc (.cells #[.pointer none, .pointer none] 29)).cell? ⟨g, 1, none⟩ = some (.int .i64 r1) := (hkb.alloc _).cell 1; have HKB := Lib.hid hkb; clear hkb))
      · go_wp2
        go_meet
        case rel => exact pairR_new (hq0.below hbB) hq1 (by have h1 := hq0.blk.lt; have h2 := hbA.size; have h3 := hoA; have h4 := hoB; simp at h1 h2 h3 h4; omega) (by have h1 := hq0.blk.lt; have h2 := hbA.size; have h3 := hoA; have h4 := hoB; simp at h1 h2 h3 h4; omega) (by have h1 := hq0.blk.lt; have h2 := hbA.size; have h3 := hoA; have h4 := hoB; simp at h1 h2 h3 h4; omega) (((Below.refl w1.heap.size w1).drew.trans hbA).trans (hbB.mono (by have h2 := hbA.size; simp at h2; omega)))
      · go_wp2
        go_meet
        case rel => exact pairR_set HB9.out (hq0.below (((Below.refl wA.heap.size wA).alloc (Nat.le_refl _) _).trans (hbB.mono (by simp)))) hq1 (by have h1 := hq0.blk.lt; have h2 := hbA.size; have h3 := hoA; have h4 := hoB; simp at h1 h2 h3 h4; omega) (by have h1 := hq0.blk.lt; have h2 := hbA.size; have h3 := hoA; have h4 := hoB; simp at h1 h2 h3 h4; exact ⟨by omega, by omega⟩) (by have h1 := hq0.blk.lt; have h2 := hbA.size; have h3 := hoA; have h4 := hoB; simp at h1 h2 h3 h4; exact ⟨by omega, by omega⟩) (by have h2 := hbA.size; simp at h2; omega) (((Below.refl w1.heap.size w1).drew.trans hbA).trans ((((Below.refl wA.heap.size wA).alloc (Nat.le_refl _) _).trans (hbB.mono (by simp))).mono (by have h2 := hbA.size; simp at h2; omega)))
      · go_wp2
        go_meet
        case rel => exact pairR_set HB9.out (hq0.below hbB) hq1 (by have h1 := hq0.blk.lt; have h2 := hbA.size; have h3 := hoA; have h4 := hoB; simp at h1 h2 h3 h4; omega) (by have h1 := hq0.blk.lt; have h2 := hbA.size; have h3 := hoA; have h4 := hoB; simp at h1 h2 h3 h4; exact ⟨by omega, by omega⟩) (by have h1 := hq0.blk.lt; have h2 := hbA.size; have h3 := hoA; have h4 := hoB; simp at h1 h2 h3 h4; exact ⟨by omega, by omega⟩) (Nat.le_refl _) (((((Below.refl w1.heap.size w1).alloc (Nat.le_refl _) _).drew).trans (hbA.mono (by simp))).trans (hbB.mono (by have h2 := hbA.size; simp at h2; omega)))
    case rest =>
      rename World => w2
      obtain ⟨gx', gr, aS, dS, e1, rfl, hS⟩ := scr_start HB1.out HPQ.out hcut
      obtain rfl : gx = gx' := by injection e1 with e1; injection e1 with e1; injection e1 with e1
      have HS := Lib.hid hS
      clear hS hcut HPQ HK1 HK9 e1 k0 k1
      have x0 : w2.cell? ⟨gx, 0, none⟩ = some (.pointer (some ⟨(aS 0).p, 0, none⟩)) := HS.out.bx.cell 0
      have x1 : w2.cell? ⟨gx, 1, none⟩ = some (.pointer (some ⟨(aS 1).p, 0, none⟩)) := HS.out.bx.cell 1
      go_wp2_with (fail)
      clear x0 x1
      go_loopw [7, 8, 9] (fun s7 s8 i wr => ∃ (k : Nat) (a : Nat → QV) (d : Nat → RV) (P Q : List IL) (ov wv : Value), k ≤ os.length ∧ s7 = ov ∧ s8 = wv ∧ i = .int .i64 k ∧ Scr w0 wr k gx gr a d ov wv P Q ∧ P.map IL.xs = Q.map IL.xs) (fun _ _ i _ => os.length - (intOf i).toNat)
      case atStart => exact ⟨0, aS, dS, [], [], _, _, Nat.zero_le _, rfl, rfl, rfl, HS.out, rfl⟩
      case round =>
        clear HS
        obtain ⟨k, a, d, P, Q, ov, wv, hk, rfl, rfl, rfl, hS, hPQ⟩ := hrel
        have HPQ := Lib.hid hPQ
        clear hPQ
        by_cases hlt : k < os.length
        · have hkl : (k : Int) < os.length := by omega
          have hin := HQ.out os[k] (List.getElem_mem hlt)
          obtain ⟨ad, rfl, hadb, e0, e1, e2, e3⟩ := opq_at4 ((hS.pm 0 (by decide)).reads HR.out) hlt
          obtain ⟨x, hx⟩ : ∃ x, os[k] = x := ⟨_, rfl⟩
          rw [hx] at e0 e1 e2 e3 hin
          obtain ⟨on, kd, id, xA, xs, xc⟩ := x
          simp only at e0 e1 e2 e3 hin
          have HIN := Lib.hid hin
          obtain ⟨go, hgo⟩ : ∃ q, wr.heap.size = q := ⟨_, rfl⟩
          have hng : ∀ j, j < 2 → ¬ (a j).of go ∧ ¬ (d j).of go := fun j hj => ⟨fun h => by have := QAt.lt (hS.pm j hj).qa h; omega, fun h => by have := RAt.ofAt (hS.pm j hj).ra h; omega⟩
          have HNG := Lib.hid hng
          have HSR := Lib.hid hS
          clear hS hin hx hng
          go_wp2_with (fail)
          obtain ⟨W0, hW0⟩ : ∃ W, wr.alloc (.cells #[.int .i64 on, .int .i64 kd, .int .i64 id, .slice xA xs.length xc] 33) = W := ⟨_, rfl⟩
          have hb0 : Below wr.heap.size wr W0 := hW0 ▸ (Below.refl _ _).alloc (Nat.le_refl _) _
          have hO : Blk W0 go 33 #[.int .i64 on, .int .i64 kd, .int .i64 id, .slice xA xs.length xc] := by rw [← hW0, ← hgo]; exact Blk.new _ _ _
          have HT := Lib.hid (HSR.out.below hb0)
          have o0 : W0.cell? ⟨go, 0, none⟩ = some (.int .i64 on) := hO.cell 0
          have o1 : W0.cell? ⟨go, 1, none⟩ = some (.int .i64 kd) := hO.cell 1
          have o2 : W0.cell? ⟨go, 2, none⟩ = some (.int .i64 id) := hO.cell 2
          have o3 : W0.cell? ⟨go, 3, none⟩ = some (.slice xA xs.length xc) := hO.cell 3
          have HO := Lib.hid hO
          rw [hW0]
          clear hW0 hb0 hO hgo e0 e1 e2 e3 HSR
          refine (pick_calls on 2 W0 (by omega) (by omega)).mono ?_
          rintro e w' ⟨j, rfl, hj, rfl⟩
          go_wp2_with (fail)
          refine (pick_calls kd 9 w' (by omega) (by omega)).mono ?_
          rintro e w'' ⟨r, rfl, hr, rfl⟩
          rename World => W0
          have hj2 : j = 0 ∨ j = 1 := by omega
          have hr4 : r = 6 ∨ r = 7 ∨ r = 8 ∨ r ≤ 5 := by omega
          rcases hj2 with rfl | rfl
          · rcases hr4 with rfl | rfl | rfl | hr5
            · as_aux_lemma =>
              have y0 : W0.cell? ⟨gx, 0, none⟩ = some (.pointer (some ⟨(a 0).p, 0, none⟩)) := HT.out.bx.cell 0
              go_wp2_with (fail)
              refine (HT.out.items (by omega) (by decide)).mono ?_
              rintro e w3 ⟨IA, ic, rfl, hx3, hb3⟩
              have hpl := HT.out.pl
              have hql := HT.out.ql
              have HOO := Lib.hid (own_but HT.out.rowO (But.of_below hb3 (fun _ => False)) (fun _ _ h => h))
              have HBS := Lib.hid (Nat.le_trans HT.out.bel.size hb3.size)
              have HX3 := Lib.hid hx3
              have HB3 := Lib.hid hb3
              clear hx3 hb3
              go_wp2_with ((at_builtin; refine wpList_append_wide_at _ rfl (.tmp 55) (.tmp 60) 30 rfl w0.heap.size 35 iL _ 1 24 Tryd.underlying30 hiL hzL0 hzL1 hzL2 rfl (by decide) _ P.length (P.flatMap IL.cs) rfl (HOO.out.alloc _) ⟨w3.heap.size, 0, none⟩ 1 1 [.slice IA (idsOf a 0).length ic] rfl rfl ?_ ?_ ?_ ?_ ?_ ?_; exact new_cells w3 35 [.slice IA (idsOf a 0).length ic]; (simp [Value.oneCell']); (unfold maxLen; omega); (omega); (have := HBS.out; simp; omega); intro v4 w4 hown4 hg4 _ hat4; have hT4 := HT.out.pushPs (m := k + 1) [⟨IA, idsOf a 0, ic⟩] HB3.out (fun x hx => by rw [List.mem_singleton.1 hx]; exact HX3.out) (sep_one _) hown4 hg4 hat4 (Nat.le_succ _) (by simp; omega) (fun x hx => by rw [List.mem_singleton.1 hx]; exact Nat.le_succ_of_le (HT.out.idsN (by decide))); have z0 : w4.cell? ⟨gr, 0, none⟩ = some (.pointer (some ⟨(d 0).q, 0, none⟩)) := hT4.br.cell 0; have HT4 := Lib.hid hT4; clear hown4 hg4 hat4 hT4))
              refine (HT4.out.itemsR (by omega) (by decide)).mono ?_
              rintro e w5 ⟨IB, id', rfl, hx5, hb5⟩
              have HOW := Lib.hid (own_but HT4.out.rowW (But.of_below hb5 (fun _ => False)) (fun _ _ h => h))
              have HX5 := Lib.hid hx5
              have HB5 := Lib.hid hb5
              replace HBS := Lib.hid (Nat.le_trans HT4.out.bel.size hb5.size)
              clear hx5 hb5
              go_wp2_with ((at_builtin; refine wpList_append_wide_at _ rfl (.tmp 62) (.tmp 67) 30 rfl w0.heap.size 35 iL _ 1 24 Tryd.underlying30 hiL hzL0 hzL1 hzL2 rfl (by decide) _ Q.length (Q.flatMap IL.cs) rfl (HOW.out.alloc _) ⟨w5.heap.size, 0, none⟩ 1 1 [.slice IB (idsOf a 0).length id'] rfl rfl ?_ ?_ ?_ ?_ ?_ ?_; exact new_cells w5 35 [.slice IB (idsOf a 0).length id']; (simp [Value.oneCell']); (unfold maxLen; omega); (omega); (have := HBS.out; simp; omega); intro v6 w6 hown6 hg6 _ hat6; have hT6 := HT4.out.pushQs (m := k + 1) [⟨IB, idsOf a 0, id'⟩] HB5.out (fun x hx => by rw [List.mem_singleton.1 hx]; exact HX5.out) hown6 hg6 hat6 (Nat.le_refl _) (by simp; omega); have HT6 := Lib.hid hT6; clear hown6 hg6 hat6 hT6))
              go_roundw
              case rel => exact ⟨k + 1, a, d, _, _, _, _, by omega, rfl, rfl, by go_num, HT6.out, by rw [List.map_append, List.map_append, HPQ.out]; rfl⟩
              case measure => simp [intOf]; omega
            · as_aux_lemma =>
              have y0 : W0.cell? ⟨gx, 0, none⟩ = some (.pointer (some ⟨(a 0).p, 0, none⟩)) := HT.out.bx.cell 0
              go_wp2_with (fail)
              refine (HT.out.idle (by omega) (by decide)).mono ?_
              rintro e w3 ⟨IA, ic, rfl, hx3, hb3⟩
              have hpl := HT.out.pl
              have hql := HT.out.ql
              have HOO := Lib.hid (own_but HT.out.rowO (But.of_below hb3 (fun _ => False)) (fun _ _ h => h))
              have HBS := Lib.hid (Nat.le_trans HT.out.bel.size hb3.size)
              have HX3 := Lib.hid hx3
              have HB3 := Lib.hid hb3
              clear hx3 hb3
              go_wp2_with ((at_builtin; refine wpList_append_wide_at _ rfl (.tmp 71) (.tmp 76) 30 rfl w0.heap.size 35 iL _ 1 24 Tryd.underlying30 hiL hzL0 hzL1 hzL2 rfl (by decide) _ P.length (P.flatMap IL.cs) rfl (HOO.out.alloc _) ⟨w3.heap.size, 0, none⟩ 1 1 [.slice IA (idlOf a 0).length ic] rfl rfl ?_ ?_ ?_ ?_ ?_ ?_; exact new_cells w3 35 [.slice IA (idlOf a 0).length ic]; (simp [Value.oneCell']); (unfold maxLen; omega); (omega); (have := HBS.out; simp; omega); intro v4 w4 hown4 hg4 _ hat4; have hT4 := HT.out.pushPs (m := k + 1) [⟨IA, idlOf a 0, ic⟩] HB3.out (fun x hx => by rw [List.mem_singleton.1 hx]; exact HX3.out) (sep_one _) hown4 hg4 hat4 (Nat.le_succ _) (by simp; omega) (fun x hx => by rw [List.mem_singleton.1 hx]; exact Nat.le_succ_of_le (HT.out.idlN (by decide))); have z0 : w4.cell? ⟨gr, 0, none⟩ = some (.pointer (some ⟨(d 0).q, 0, none⟩)) := hT4.br.cell 0; have HT4 := Lib.hid hT4; clear hown4 hg4 hat4 hT4))
              refine (HT4.out.idlesR (by omega) (by decide)).mono ?_
              rintro e w5 ⟨IB, id', rfl, hx5, hb5⟩
              have HOW := Lib.hid (own_but HT4.out.rowW (But.of_below hb5 (fun _ => False)) (fun _ _ h => h))
              have HX5 := Lib.hid hx5
              have HB5 := Lib.hid hb5
              replace HBS := Lib.hid (Nat.le_trans HT4.out.bel.size hb5.size)
              clear hx5 hb5
              go_wp2_with ((at_builtin; refine wpList_append_wide_at _ rfl (.tmp 78) (.tmp 83) 30 rfl w0.heap.size 35 iL _ 1 24 Tryd.underlying30 hiL hzL0 hzL1 hzL2 rfl (by decide) _ Q.length (Q.flatMap IL.cs) rfl (HOW.out.alloc _) ⟨w5.heap.size, 0, none⟩ 1 1 [.slice IB (idlOf a 0).length id'] rfl rfl ?_ ?_ ?_ ?_ ?_ ?_; exact new_cells w5 35 [.slice IB (idlOf a 0).length id']; (simp [Value.oneCell']); (unfold maxLen; omega); (omega); (have := HBS.out; simp; omega); intro v6 w6 hown6 hg6 _ hat6; have hT6 := HT4.out.pushQs (m := k + 1) [⟨IB, idlOf a 0, id'⟩] HB5.out (fun x hx => by rw [List.mem_singleton.1 hx]; exact HX5.out) hown6 hg6 hat6 (Nat.le_refl _) (by simp; omega); have HT6 := Lib.hid hT6; clear hown6 hg6 hat6 hT6))
              go_roundw
              case rel => exact ⟨k + 1, a, d, _, _, _, _, by omega, rfl, rfl, by go_num, HT6.out, by rw [List.map_append, List.map_append, HPQ.out]; rfl⟩
              case measure => simp [intOf]; omega
            · as_aux_lemma =>
              have y0 : W0.cell? ⟨gx, 0, none⟩ = some (.pointer (some ⟨(a 0).p, 0, none⟩)) := HT.out.bx.cell 0
              go_wp2_with (fail)
              refine (newQ_calls id W0).mono ?_
              rintro e w3 ⟨p', bi', bw', rfl, hq3, hb3, hoq3⟩
              have bx3 := HT.out.bx.below hb3 HT.out.bx.lt
              have br3 := HT.out.br.below hb3 HT.out.br.lt
              have bo3 := HO.out.below hb3 HO.out.lt
              have hxr : gx ≠ gr := HT.out.bx.ne_ HT.out.br (by decide)
              have hxo : go ≠ gx := HO.out.ne_ HT.out.bx (by decide)
              have y1 : w3.cell? ⟨gx, 0, none⟩ = some (.pointer (some ⟨(a 0).p, 0, none⟩)) := bx3.cell 0
              have y2 : w3.frozen? ⟨gx, 0, none⟩ = false := bx3.frozen 0
              have y3 : (w3.setCell ⟨gx, 0, none⟩ (.pointer (some ⟨p', 0, none⟩))).cell? ⟨go, 2, none⟩ = some (.int .i64 id) := (bo3.far (p := ⟨gx, 0, none⟩) hxo _).cell 2
              have brs := br3.far (p := ⟨gx, 0, none⟩) (Ne.symm hxr) (.pointer (some ⟨p', 0, none⟩))
              have bxs := bx3.set_ 0 (.pointer (some ⟨p', 0, none⟩))
              have HBR := Lib.hid brs
              have HBX := Lib.hid bxs
              have HQ3 := Lib.hid hq3
              have HB3 := Lib.hid hb3
              have HOQ := Lib.hid hoq3
              have HXR := Lib.hid hxr
              clear bx3 br3 bo3 brs bxs hq3 hb3 hoq3 hxr hxo o0 o1 o2 o3
              unfold eP
              go_wp2_with (fail)
              refine (newR_calls id _).mono ?_
              rintro e w5 ⟨q', rfl, hr5, hb5, hq5⟩
              have hT5 := HT.out.fresh (j := 0) (by decide) HB3.out HQ3.out HOQ.out hb5 hr5 hq5
              have br5 := HBR.out.below hb5 HBR.out.lt
              have z1 : w5.cell? ⟨gr, 0, none⟩ = some (.pointer (some ⟨(d 0).q, 0, none⟩)) := br5.cell 0
              have z2 : w5.frozen? ⟨gr, 0, none⟩ = false := br5.frozen 0
              have z3 : (w5.setCell ⟨gr, 0, none⟩ (.pointer (some ⟨q', 0, none⟩))).cell? ⟨gx, 0, none⟩ = some (.pointer (some ⟨p', 0, none⟩)) := ((HBX.out.below hb5 HBX.out.lt).far (p := ⟨gr, 0, none⟩) HXR.out _).cell 0
              have HT5 := Lib.hid hT5
              clear hT5 hr5 hb5 hq5 br5
              unfold eP
              go_wp2_with (fail)
              go_roundw
              case rel => exact ⟨k + 1, _, _, P, Q, _, _, by omega, rfl, rfl, by go_num, HT5.out.up (Nat.le_succ _), HPQ.out⟩
              case measure => simp [intOf]; omega
            · as_aux_lemma =>
              have h6 : ((r : Int) == 6) = false := by simp; omega
              have h7 : ((r : Int) == 7) = false := by simp; omega
              have h8 : ((r : Int) == 8) = false := by simp; omega
              have y0 : W0.cell? ⟨gx, 0, none⟩ = some (.pointer (some ⟨(a 0).p, 0, none⟩)) := HT.out.bx.cell 0
              have y1 : W0.cell? ⟨gr, 0, none⟩ = some (.pointer (some ⟨(d 0).q, 0, none⟩)) := HT.out.br.cell 0
              obtain ⟨WD, hWD⟩ : ∃ W, W0.drew = W := ⟨_, rfl⟩
              have HTD := Lib.hid (hWD ▸ HT.out.below (Below.refl W0.heap.size W0).drew)
              have HOD := Lib.hid (hWD ▸ (show Blk W0.drew go 33 #[.int .i64 on, .int .i64 kd, .int .i64 id, .slice xA xs.length xc] from HO.out))
              have hst := stepAll_calls r hr5 on kd (HTD.out.stepH (j := 0) (by decide) (by omega) HGG.out HIN.out)
              have HST := Lib.hid hst
              have HWD := Lib.hid hWD
              clear hWD hst HO HT
              go_upto_region 24 with fail
              go_region_held3 (fun w' => w'.cell? ⟨gx, 0, none⟩ = some (.pointer (some ⟨(a 0).p, 0, none⟩)) ∧ w'.cell? ⟨gr, 0, none⟩ = some (.pointer (some ⟨(d 0).q, 0, none⟩)) ∧ w'.cell? ⟨go, 0, none⟩ = some (.int .i64 on) ∧ w'.cell? ⟨go, 1, none⟩ = some (.int .i64 kd) ∧ w'.cell? ⟨go, 2, none⟩ = some (.int .i64 id) ∧ w'.cell? ⟨go, 3, none⟩ = some (.slice xA xs.length xc))
                (first | go_keep | fail)
                (first | (go_at_call 12; rw [HWD.out]; refine HST.out.mono ?_; rintro e w3 ⟨a', d', rfl, hst⟩; have hT3 := HTD.out.step (j := 0) (by decide) hst; have ho3 := HOD.out.but hst.but (fun h => h.elim (HNG.out 0 (by decide)).1 (HNG.out 0 (by decide)).2); have hk3 := HTD.out.keepS hst.but (fun i t q => t.elim ((HTD.out.pm 0 (by decide)).own i q).2.1 ((HTD.out.pm 0 (by decide)).own i q).2.2); have u0 : w3.cell? ⟨gx, 0, none⟩ = some (.pointer (some ⟨(a 0).p, 0, none⟩)) := hk3.1.cell 0; have u1 : w3.cell? ⟨gr, 0, none⟩ = some (.pointer (some ⟨(d 0).q, 0, none⟩)) := hk3.2.1.cell 0; have t0 : w3.cell? ⟨go, 0, none⟩ = some (.int .i64 on) := ho3.cell 0; have t1 : w3.cell? ⟨go, 1, none⟩ = some (.int .i64 kd) := ho3.cell 1; have t2 : w3.cell? ⟨go, 2, none⟩ = some (.int .i64 id) := ho3.cell 2; have t3 : w3.cell? ⟨go, 3, none⟩ = some (.slice xA xs.length xc) := ho3.cell 3; have HT3 := Lib.hid hT3; clear hst hT3 ho3 hk3))
              go_wp2_with (fail)
              go_roundw
              case rel => exact ⟨k + 1, _, _, P, Q, _, _, by omega, rfl, rfl, by go_num, HT3.out, HPQ.out⟩
              case measure => simp [intOf]; omega
          · rcases hr4 with rfl | rfl | rfl | hr5
            · as_aux_lemma =>
              have y0 : W0.cell? ⟨gx, 1, none⟩ = some (.pointer (some ⟨(a 1).p, 0, none⟩)) := HT.out.bx.cell 1
              go_wp2_with (fail)
              refine (HT.out.items (by omega) (by decide)).mono ?_
              rintro e w3 ⟨IA, ic, rfl, hx3, hb3⟩
              have hpl := HT.out.pl
              have hql := HT.out.ql
              have HOO := Lib.hid (own_but HT.out.rowO (But.of_below hb3 (fun _ => False)) (fun _ _ h => h))
              have HBS := Lib.hid (Nat.le_trans HT.out.bel.size hb3.size)
              have HX3 := Lib.hid hx3
              have HB3 := Lib.hid hb3
              clear hx3 hb3
              go_wp2_with ((at_builtin; refine wpList_append_wide_at _ rfl (.tmp 55) (.tmp 60) 30 rfl w0.heap.size 35 iL _ 1 24 Tryd.underlying30 hiL hzL0 hzL1 hzL2 rfl (by decide) _ P.length (P.flatMap IL.cs) rfl (HOO.out.alloc _) ⟨w3.heap.size, 0, none⟩ 1 1 [.slice IA (idsOf a 1).length ic] rfl rfl ?_ ?_ ?_ ?_ ?_ ?_; exact new_cells w3 35 [.slice IA (idsOf a 1).length ic]; (simp [Value.oneCell']); (unfold maxLen; omega); (omega); (have := HBS.out; simp; omega); intro v4 w4 hown4 hg4 _ hat4; have hT4 := HT.out.pushPs (m := k + 1) [⟨IA, idsOf a 1, ic⟩] HB3.out (fun x hx => by rw [List.mem_singleton.1 hx]; exact HX3.out) (sep_one _) hown4 hg4 hat4 (Nat.le_succ _) (by simp; omega) (fun x hx => by rw [List.mem_singleton.1 hx]; exact Nat.le_succ_of_le (HT.out.idsN (by decide))); have z0 : w4.cell? ⟨gr, 1, none⟩ = some (.pointer (some ⟨(d 1).q, 0, none⟩)) := hT4.br.cell 1; have HT4 := Lib.hid hT4; clear hown4 hg4 hat4 hT4))
              refine (HT4.out.itemsR (by omega) (by decide)).mono ?_
              rintro e w5 ⟨IB, id', rfl, hx5, hb5⟩
              have HOW := Lib.hid (own_but HT4.out.rowW (But.of_below hb5 (fun _ => False)) (fun _ _ h => h))
              have HX5 := Lib.hid hx5
              have HB5 := Lib.hid hb5
              replace HBS := Lib.hid (Nat.le_trans HT4.out.bel.size hb5.size)
              clear hx5 hb5
              go_wp2_with ((at_builtin; refine wpList_append_wide_at _ rfl (.tmp 62) (.tmp 67) 30 rfl w0.heap.size 35 iL _ 1 24 Tryd.underlying30 hiL hzL0 hzL1 hzL2 rfl (by decide) _ Q.length (Q.flatMap IL.cs) rfl (HOW.out.alloc _) ⟨w5.heap.size, 0, none⟩ 1 1 [.slice IB (idsOf a 1).length id'] rfl rfl ?_ ?_ ?_ ?_ ?_ ?_; exact new_cells w5 35 [.slice IB (idsOf a 1).length id']; (simp [Value.oneCell']); (unfold maxLen; omega); (omega); (have := HBS.out; simp; omega); intro v6 w6 hown6 hg6 _ hat6; have hT6 := HT4.out.pushQs (m := k + 1) [⟨IB, idsOf a 1, id'⟩] HB5.out (fun x hx => by rw [List.mem_singleton.1 hx]; exact HX5.out) hown6 hg6 hat6 (Nat.le_refl _) (by simp; omega); have HT6 := Lib.hid hT6; clear hown6 hg6 hat6 hT6))
              go_roundw
              case rel => exact ⟨k + 1, a, d, _, _, _, _, by omega, rfl, rfl, by go_num, HT6.out, by rw [List.map_append, List.map_append, HPQ.out]; rfl⟩
              case measure => simp [intOf]; omega
            · as_aux_lemma =>
              have y0 : W0.cell? ⟨gx, 1, none⟩ = some (.pointer (some ⟨(a 1).p, 0, none⟩)) := HT.out.bx.cell 1
              go_wp2_with (fail)
              refine (HT.out.idle (by omega) (by decide)).mono ?_
              rintro e w3 ⟨IA, ic, rfl, hx3, hb3⟩
              have hpl := HT.out.pl
              have hql := HT.out.ql
              have HOO := Lib.hid (own_but HT.out.rowO (But.of_below hb3 (fun _ => False)) (fun _ _ h => h))
              have HBS := Lib.hid (Nat.le_trans HT.out.bel.size hb3.size)
              have HX3 := Lib.hid hx3
              have HB3 := Lib.hid hb3
              clear hx3 hb3
              go_wp2_with ((at_builtin; refine wpList_append_wide_at _ rfl (.tmp 71) (.tmp 76) 30 rfl w0.heap.size 35 iL _ 1 24 Tryd.underlying30 hiL hzL0 hzL1 hzL2 rfl (by decide) _ P.length (P.flatMap IL.cs) rfl (HOO.out.alloc _) ⟨w3.heap.size, 0, none⟩ 1 1 [.slice IA (idlOf a 1).length ic] rfl rfl ?_ ?_ ?_ ?_ ?_ ?_; exact new_cells w3 35 [.slice IA (idlOf a 1).length ic]; (simp [Value.oneCell']); (unfold maxLen; omega); (omega); (have := HBS.out; simp; omega); intro v4 w4 hown4 hg4 _ hat4; have hT4 := HT.out.pushPs (m := k + 1) [⟨IA, idlOf a 1, ic⟩] HB3.out (fun x hx => by rw [List.mem_singleton.1 hx]; exact HX3.out) (sep_one _) hown4 hg4 hat4 (Nat.le_succ _) (by simp; omega) (fun x hx => by rw [List.mem_singleton.1 hx]; exact Nat.le_succ_of_le (HT.out.idlN (by decide))); have z0 : w4.cell? ⟨gr, 1, none⟩ = some (.pointer (some ⟨(d 1).q, 0, none⟩)) := hT4.br.cell 1; have HT4 := Lib.hid hT4; clear hown4 hg4 hat4 hT4))
              refine (HT4.out.idlesR (by omega) (by decide)).mono ?_
              rintro e w5 ⟨IB, id', rfl, hx5, hb5⟩
              have HOW := Lib.hid (own_but HT4.out.rowW (But.of_below hb5 (fun _ => False)) (fun _ _ h => h))
              have HX5 := Lib.hid hx5
              have HB5 := Lib.hid hb5
              replace HBS := Lib.hid (Nat.le_trans HT4.out.bel.size hb5.size)
              clear hx5 hb5
              go_wp2_with ((at_builtin; refine wpList_append_wide_at _ rfl (.tmp 78) (.tmp 83) 30 rfl w0.heap.size 35 iL _ 1 24 Tryd.underlying30 hiL hzL0 hzL1 hzL2 rfl (by decide) _ Q.length (Q.flatMap IL.cs) rfl (HOW.out.alloc _) ⟨w5.heap.size, 0, none⟩ 1 1 [.slice IB (idlOf a 1).length id'] rfl rfl ?_ ?_ ?_ ?_ ?_ ?_; exact new_cells w5 35 [.slice IB (idlOf a 1).length id']; (simp [Value.oneCell']); (unfold maxLen; omega); (omega); (have := HBS.out; simp; omega); intro v6 w6 hown6 hg6 _ hat6; have hT6 := HT4.out.pushQs (m := k + 1) [⟨IB, idlOf a 1, id'⟩] HB5.out (fun x hx => by rw [List.mem_singleton.1 hx]; exact HX5.out) hown6 hg6 hat6 (Nat.le_refl _) (by simp; omega); have HT6 := Lib.hid hT6; clear hown6 hg6 hat6 hT6))
              go_roundw
              case rel => exact ⟨k + 1, a, d, _, _, _, _, by omega, rfl, rfl, by go_num, HT6.out, by rw [List.map_append, List.map_append, HPQ.out]; rfl⟩
              case measure => simp [intOf]; omega
            · as_aux_lemma =>
              have y0 : W0.cell? ⟨gx, 1, none⟩ = some (.pointer (some ⟨(a 1).p, 0, none⟩)) := HT.out.bx.cell 1
              go_wp2_with (fail)
              refine (newQ_calls id W0).mono ?_
              rintro e w3 ⟨p', bi', bw', rfl, hq3, hb3, hoq3⟩
              have bx3 := HT.out.bx.below hb3 HT.out.bx.lt
              have br3 := HT.out.br.below hb3 HT.out.br.lt
              have bo3 := HO.out.below hb3 HO.out.lt
              have hxr : gx ≠ gr := HT.out.bx.ne_ HT.out.br (by decide)
              have hxo : go ≠ gx := HO.out.ne_ HT.out.bx (by decide)
              have y1 : w3.cell? ⟨gx, 1, none⟩ = some (.pointer (some ⟨(a 1).p, 0, none⟩)) := bx3.cell 1
              have y2 : w3.frozen? ⟨gx, 1, none⟩ = false := bx3.frozen 1
              have y3 : (w3.setCell ⟨gx, 1, none⟩ (.pointer (some ⟨p', 0, none⟩))).cell? ⟨go, 2, none⟩ = some (.int .i64 id) := (bo3.far (p := ⟨gx, 1, none⟩) hxo _).cell 2
              have brs := br3.far (p := ⟨gx, 1, none⟩) (Ne.symm hxr) (.pointer (some ⟨p', 0, none⟩))
              have bxs := bx3.set_ 1 (.pointer (some ⟨p', 0, none⟩))
              have HBR := Lib.hid brs
              have HBX := Lib.hid bxs
              have HQ3 := Lib.hid hq3
              have HB3 := Lib.hid hb3
              have HOQ := Lib.hid hoq3
              have HXR := Lib.hid hxr
              clear bx3 br3 bo3 brs bxs hq3 hb3 hoq3 hxr hxo o0 o1 o2 o3
              unfold eP
              go_wp2_with (fail)
              refine (newR_calls id _).mono ?_
              rintro e w5 ⟨q', rfl, hr5, hb5, hq5⟩
              have hT5 := HT.out.fresh (j := 1) (by decide) HB3.out HQ3.out HOQ.out hb5 hr5 hq5
              have br5 := HBR.out.below hb5 HBR.out.lt
              have z1 : w5.cell? ⟨gr, 1, none⟩ = some (.pointer (some ⟨(d 1).q, 0, none⟩)) := br5.cell 1
              have z2 : w5.frozen? ⟨gr, 1, none⟩ = false := br5.frozen 1
              have z3 : (w5.setCell ⟨gr, 1, none⟩ (.pointer (some ⟨q', 0, none⟩))).cell? ⟨gx, 1, none⟩ = some (.pointer (some ⟨p', 0, none⟩)) := ((HBX.out.below hb5 HBX.out.lt).far (p := ⟨gr, 1, none⟩) HXR.out _).cell 1
              have HT5 := Lib.hid hT5
              clear hT5 hr5 hb5 hq5 br5
              unfold eP
              go_wp2_with (fail)
              go_roundw
              case rel => exact ⟨k + 1, _, _, P, Q, _, _, by omega, rfl, rfl, by go_num, HT5.out.up (Nat.le_succ _), HPQ.out⟩
              case measure => simp [intOf]; omega
            · as_aux_lemma =>
              have h6 : ((r : Int) == 6) = false := by simp; omega
              have h7 : ((r : Int) == 7) = false := by simp; omega
              have h8 : ((r : Int) == 8) = false := by simp; omega
              have y0 : W0.cell? ⟨gx, 1, none⟩ = some (.pointer (some ⟨(a 1).p, 0, none⟩)) := HT.out.bx.cell 1
              have y1 : W0.cell? ⟨gr, 1, none⟩ = some (.pointer (some ⟨(d 1).q, 0, none⟩)) := HT.out.br.cell 1
              obtain ⟨WD, hWD⟩ : ∃ W, W0.drew = W := ⟨_, rfl⟩
              have HTD := Lib.hid (hWD ▸ HT.out.below (Below.refl W0.heap.size W0).drew)
              have HOD := Lib.hid (hWD ▸ (show Blk W0.drew go 33 #[.int .i64 on, .int .i64 kd, .int .i64 id, .slice xA xs.length xc] from HO.out))
              have hst := stepAll_calls r hr5 on kd (HTD.out.stepH (j := 1) (by decide) (by omega) HGG.out HIN.out)
              have HST := Lib.hid hst
              have HWD := Lib.hid hWD
              clear hWD hst HO HT
              go_upto_region 24 with fail
              go_region_held3 (fun w' => w'.cell? ⟨gx, 1, none⟩ = some (.pointer (some ⟨(a 1).p, 0, none⟩)) ∧ w'.cell? ⟨gr, 1, none⟩ = some (.pointer (some ⟨(d 1).q, 0, none⟩)) ∧ w'.cell? ⟨go, 0, none⟩ = some (.int .i64 on) ∧ w'.cell? ⟨go, 1, none⟩ = some (.int .i64 kd) ∧ w'.cell? ⟨go, 2, none⟩ = some (.int .i64 id) ∧ w'.cell? ⟨go, 3, none⟩ = some (.slice xA xs.length xc))
                (first | go_keep | fail)
                (first | (go_at_call 12; rw [HWD.out]; refine HST.out.mono ?_; rintro e w3 ⟨a', d', rfl, hst⟩; have hT3 := HTD.out.step (j := 1) (by decide) hst; have ho3 := HOD.out.but hst.but (fun h => h.elim (HNG.out 1 (by decide)).1 (HNG.out 1 (by decide)).2); have hk3 := HTD.out.keepS hst.but (fun i t q => t.elim ((HTD.out.pm 1 (by decide)).own i q).2.1 ((HTD.out.pm 1 (by decide)).own i q).2.2); have u0 : w3.cell? ⟨gx, 1, none⟩ = some (.pointer (some ⟨(a 1).p, 0, none⟩)) := hk3.1.cell 1; have u1 : w3.cell? ⟨gr, 1, none⟩ = some (.pointer (some ⟨(d 1).q, 0, none⟩)) := hk3.2.1.cell 1; have t0 : w3.cell? ⟨go, 0, none⟩ = some (.int .i64 on) := ho3.cell 0; have t1 : w3.cell? ⟨go, 1, none⟩ = some (.int .i64 kd) := ho3.cell 1; have t2 : w3.cell? ⟨go, 2, none⟩ = some (.int .i64 id) := ho3.cell 2; have t3 : w3.cell? ⟨go, 3, none⟩ = some (.slice xA xs.length xc) := ho3.cell 3; have HT3 := Lib.hid hT3; clear hst hT3 ho3 hk3))
              go_wp2_with (fail)
              go_roundw
              case rel => exact ⟨k + 1, _, _, P, Q, _, _, by omega, rfl, rfl, by go_num, HT3.out, HPQ.out⟩
              case measure => simp [intOf]; omega
        · obtain rfl : k = os.length := by omega
          have hpl0 := hS.pl
          have hql0 := hS.ql
          have HS4 := Lib.hid (hS.up (show os.length ≤ os.length + 4 by omega))
          clear hS
          obtain ⟨wo, rfl⟩ : ∃ wo : World, wo = wr := ⟨_, rfl⟩
          go_wp2_with (fail)
          go_loopw [7, 8, 13] (fun s7 s8 i wr => ∃ (m : Nat) (P Q : List IL) (ov wv : Value), m ≤ 2 ∧ s7 = ov ∧ s8 = wv ∧ i = .int .i64 m ∧ Scr w0 wr (os.length + 4) gx gr a d ov wv P Q ∧ P.map IL.xs = Q.map IL.xs ∧ P.length ≤ os.length + 2 * m ∧ Q.length ≤ os.length + 2 * m ∧ 2 * m ≤ P.length) (fun _ _ i _ => 2 - (intOf i).toNat)
          case atStart => exact ⟨0, P, Q, _, _, by omega, rfl, rfl, rfl, HS4.out, HPQ.out, by omega, by omega, by omega⟩
          case round =>
            clear HS4 HPQ hpl0 hql0 P Q
            obtain ⟨m, P, Q, ov, wv, hm, rfl, rfl, rfl, hS, hPQ, hpl, hql, hmp⟩ := hrel
            have HS := Lib.hid hS
            have HPQ := Lib.hid hPQ
            clear hS hPQ
            have hm3 : m = 0 ∨ m = 1 ∨ m = 2 := by omega
            rcases hm3 with rfl | rfl | rfl
            · as_aux_lemma =>
              have y29 : wr.cell? ⟨gx, 0, none⟩ = some (.pointer (some ⟨(a 0).p, 0, none⟩)) := HS.out.bx.cell 0
              obtain ⟨WD29, hWD29⟩ : ∃ X, wr.drew = X := ⟨_, rfl⟩
              have HTD29 := Lib.hid (hWD29 ▸ HS.out.below (Below.refl wr.heap.size wr).drew)
              have HWD29 := Lib.hid hWD29
              clear hWD29
              go_upto_region 29 with fail
              go_region_held3 (fun w' => w'.cell? ⟨gx, 0, none⟩ = some (.pointer (some ⟨(a 0).p, 0, none⟩)))
                (first | go_keep | fail)
                (first
                  | (go_at_call 8; rw [HWD29.out]; refine (HTD29.out.items (by omega) (by decide)).mono ?_; rintro e wa ⟨IA29, ic29, rfl, hxa, hba⟩; have hTa := HTD29.out.below hba; have u290 : wa.cell? ⟨gx, 0, none⟩ = some (.pointer (some ⟨(a 0).p, 0, none⟩)) := hTa.bx.cell 0; have HTwa := Lib.hid hTa; have HXwa := Lib.hid hxa; have HBwa := Lib.hid hba; clear hxa hba hTa)
                  | (go_at_call 10; refine (HTwa.out.idle (by omega) (by decide)).mono ?_; rintro e wb ⟨IB29, ib29, rfl, hxb, hbb⟩; have hTb := HTwa.out.below hbb; have u291 : wb.cell? ⟨gx, 0, none⟩ = some (.pointer (some ⟨(a 0).p, 0, none⟩)) := hTb.bx.cell 0; have u292 : (wb.alloc (.cells #[.slice IA29 (idsOf a 0).length ic29, .slice IB29 (idlOf a 0).length ib29] 35)).cell? ⟨gx, 0, none⟩ = some (.pointer (some ⟨(a 0).p, 0, none⟩)) := (hTb.bx.alloc _).cell 0; have HTwb := Lib.hid hTb; have HXwb := Lib.hid hxb; have HBwb := Lib.hid hbb; clear hxb hbb hTb)
                  | (rw [if_pos (by rfl)]; refine wp_append_wide_at _ (.tmp 115) (.tmp 124) 30 rfl w0.heap.size 35 iL _ 1 24 Tryd.underlying30 hiL hzL0 hzL1 hzL2 rfl (by decide) _ P.length (P.flatMap IL.cs) rfl (HTwb.out.rowO.alloc _) ⟨wb.heap.size, 0, none⟩ 2 2 [.slice IA29 (idsOf a 0).length ic29, .slice IB29 (idlOf a 0).length ib29] rfl rfl ?_ ?_ ?_ ?_ ?_ ?_; exact new_cells wb 35 [.slice IA29 (idsOf a 0).length ic29, .slice IB29 (idlOf a 0).length ib29]; (simp [Value.oneCell']); (unfold maxLen; omega); (omega); (have := HTwb.out.bel.size; simp; omega); intro vwc wc hown hg hat; have hTc := HTD29.out.pushPs (m := os.length + 4) [⟨IA29, idsOf a 0, ic29⟩, ⟨IB29, idlOf a 0, ib29⟩] (HBwa.out.trans (HBwb.out.mono HBwa.out.size)) (two_rows (own_up HXwa.out HBwb.out) (row_weak HXwb.out HBwa.out.size)) (sep_two (B := wa.heap.size) (fun i hi => own_lt HXwa.out hi) (fun i hi => own_base HXwb.out hi)) hown hg hat (Nat.le_refl _) (by simp; omega) (two_lens (HS.out.idsN (by decide)) (HS.out.idlN (by decide))); have u293 : wc.cell? ⟨gx, 0, none⟩ = some (.pointer (some ⟨(a 0).p, 0, none⟩)) := hTc.bx.cell 0; have HTwc := Lib.hid hTc; clear hown hg hat hTc))
              have y30 : wc.cell? ⟨gr, 0, none⟩ = some (.pointer (some ⟨(d 0).q, 0, none⟩)) := HTwc.out.br.cell 0
              obtain ⟨WD30, hWD30⟩ : ∃ X, wc.drew = X := ⟨_, rfl⟩
              have HTD30 := Lib.hid (hWD30 ▸ HTwc.out.below (Below.refl wc.heap.size wc).drew)
              have HWD30 := Lib.hid hWD30
              clear hWD30
              go_upto_region 30 with fail
              go_region_held3 (fun w' => w'.cell? ⟨gr, 0, none⟩ = some (.pointer (some ⟨(d 0).q, 0, none⟩)))
                (first | go_keep | fail)
                (first
                  | (go_at_call 9; rw [HWD30.out]; refine (HTD30.out.itemsR (by omega) (by decide)).mono ?_; rintro e wd ⟨IA30, ic30, rfl, hxa, hba⟩; have hTa := HTD30.out.below hba; have u300 : wd.cell? ⟨gr, 0, none⟩ = some (.pointer (some ⟨(d 0).q, 0, none⟩)) := hTa.br.cell 0; have HTwd := Lib.hid hTa; have HXwd := Lib.hid hxa; have HBwd := Lib.hid hba; clear hxa hba hTa)
                  | (go_at_call 11; refine (HTwd.out.idlesR (by omega) (by decide)).mono ?_; rintro e we ⟨IB30, ib30, rfl, hxb, hbb⟩; have hTb := HTwd.out.below hbb; have u301 : we.cell? ⟨gr, 0, none⟩ = some (.pointer (some ⟨(d 0).q, 0, none⟩)) := hTb.br.cell 0; have u302 : (we.alloc (.cells #[.slice IA30 (idsOf a 0).length ic30, .slice IB30 (idlOf a 0).length ib30] 35)).cell? ⟨gr, 0, none⟩ = some (.pointer (some ⟨(d 0).q, 0, none⟩)) := (hTb.br.alloc _).cell 0; have HTwe := Lib.hid hTb; have HXwe := Lib.hid hxb; have HBwe := Lib.hid hbb; clear hxb hbb hTb)
                  | (rw [if_pos (by rfl)]; refine wp_append_wide_at _ (.tmp 126) (.tmp 135) 30 rfl w0.heap.size 35 iL _ 1 24 Tryd.underlying30 hiL hzL0 hzL1 hzL2 rfl (by decide) _ Q.length (Q.flatMap IL.cs) rfl (HTwe.out.rowW.alloc _) ⟨we.heap.size, 0, none⟩ 2 2 [.slice IA30 (idsOf a 0).length ic30, .slice IB30 (idlOf a 0).length ib30] rfl rfl ?_ ?_ ?_ ?_ ?_ ?_; exact new_cells we 35 [.slice IA30 (idsOf a 0).length ic30, .slice IB30 (idlOf a 0).length ib30]; (simp [Value.oneCell']); (unfold maxLen; omega); (omega); (have := HTwe.out.bel.size; simp; omega); intro vwf wf hown hg hat; have hTc := HTD30.out.pushQs (m := os.length + 4) [⟨IA30, idsOf a 0, ic30⟩, ⟨IB30, idlOf a 0, ib30⟩] (HBwd.out.trans (HBwe.out.mono HBwd.out.size)) (two_rows (own_up HXwd.out HBwe.out) (row_weak HXwe.out HBwd.out.size)) hown hg hat (Nat.le_refl _) (by simp; omega); have u303 : wf.cell? ⟨gr, 0, none⟩ = some (.pointer (some ⟨(d 0).q, 0, none⟩)) := hTc.br.cell 0; have HTwf := Lib.hid hTc; clear hown hg hat hTc))
              go_wp2_with (fail)
              go_roundw
              case rel => exact ⟨1, _, _, _, _, by omega, rfl, rfl, by go_num, HTwf.out, by rw [List.map_append, List.map_append, HPQ.out]; rfl, by simp; omega, by simp; omega, by simp <;> omega⟩
              case measure => simp [intOf]
            · as_aux_lemma =>
              have y29 : wr.cell? ⟨gx, 1, none⟩ = some (.pointer (some ⟨(a 1).p, 0, none⟩)) := HS.out.bx.cell 1
              obtain ⟨WD29, hWD29⟩ : ∃ X, wr.drew = X := ⟨_, rfl⟩
              have HTD29 := Lib.hid (hWD29 ▸ HS.out.below (Below.refl wr.heap.size wr).drew)
              have HWD29 := Lib.hid hWD29
              clear hWD29
              go_upto_region 29 with fail
              go_region_held3 (fun w' => w'.cell? ⟨gx, 1, none⟩ = some (.pointer (some ⟨(a 1).p, 0, none⟩)))
                (first | go_keep | fail)
                (first
                  | (go_at_call 8; rw [HWD29.out]; refine (HTD29.out.items (by omega) (by decide)).mono ?_; rintro e wa ⟨IA29, ic29, rfl, hxa, hba⟩; have hTa := HTD29.out.below hba; have u290 : wa.cell? ⟨gx, 1, none⟩ = some (.pointer (some ⟨(a 1).p, 0, none⟩)) := hTa.bx.cell 1; have HTwa := Lib.hid hTa; have HXwa := Lib.hid hxa; have HBwa := Lib.hid hba; clear hxa hba hTa)
                  | (go_at_call 10; refine (HTwa.out.idle (by omega) (by decide)).mono ?_; rintro e wb ⟨IB29, ib29, rfl, hxb, hbb⟩; have hTb := HTwa.out.below hbb; have u291 : wb.cell? ⟨gx, 1, none⟩ = some (.pointer (some ⟨(a 1).p, 0, none⟩)) := hTb.bx.cell 1; have u292 : (wb.alloc (.cells #[.slice IA29 (idsOf a 1).length ic29, .slice IB29 (idlOf a 1).length ib29] 35)).cell? ⟨gx, 1, none⟩ = some (.pointer (some ⟨(a 1).p, 0, none⟩)) := (hTb.bx.alloc _).cell 1; have HTwb := Lib.hid hTb; have HXwb := Lib.hid hxb; have HBwb := Lib.hid hbb; clear hxb hbb hTb)
                  | (rw [if_pos (by rfl)]; refine wp_append_wide_at _ (.tmp 115) (.tmp 124) 30 rfl w0.heap.size 35 iL _ 1 24 Tryd.underlying30 hiL hzL0 hzL1 hzL2 rfl (by decide) _ P.length (P.flatMap IL.cs) rfl (HTwb.out.rowO.alloc _) ⟨wb.heap.size, 0, none⟩ 2 2 [.slice IA29 (idsOf a 1).length ic29, .slice IB29 (idlOf a 1).length ib29] rfl rfl ?_ ?_ ?_ ?_ ?_ ?_; exact new_cells wb 35 [.slice IA29 (idsOf a 1).length ic29, .slice IB29 (idlOf a 1).length ib29]; (simp [Value.oneCell']); (unfold maxLen; omega); (omega); (have := HTwb.out.bel.size; simp; omega); intro vwc wc hown hg hat; have hTc := HTD29.out.pushPs (m := os.length + 4) [⟨IA29, idsOf a 1, ic29⟩, ⟨IB29, idlOf a 1, ib29⟩] (HBwa.out.trans (HBwb.out.mono HBwa.out.size)) (two_rows (own_up HXwa.out HBwb.out) (row_weak HXwb.out HBwa.out.size)) (sep_two (B := wa.heap.size) (fun i hi => own_lt HXwa.out hi) (fun i hi => own_base HXwb.out hi)) hown hg hat (Nat.le_refl _) (by simp; omega) (two_lens (HS.out.idsN (by decide)) (HS.out.idlN (by decide))); have u293 : wc.cell? ⟨gx, 1, none⟩ = some (.pointer (some ⟨(a 1).p, 0, none⟩)) := hTc.bx.cell 1; have HTwc := Lib.hid hTc; clear hown hg hat hTc))
              have y30 : wc.cell? ⟨gr, 1, none⟩ = some (.pointer (some ⟨(d 1).q, 0, none⟩)) := HTwc.out.br.cell 1
              obtain ⟨WD30, hWD30⟩ : ∃ X, wc.drew = X := ⟨_, rfl⟩
              have HTD30 := Lib.hid (hWD30 ▸ HTwc.out.below (Below.refl wc.heap.size wc).drew)
              have HWD30 := Lib.hid hWD30
              clear hWD30
              go_upto_region 30 with fail
              go_region_held3 (fun w' => w'.cell? ⟨gr, 1, none⟩ = some (.pointer (some ⟨(d 1).q, 0, none⟩)))
                (first | go_keep | fail)
                (first
                  | (go_at_call 9; rw [HWD30.out]; refine (HTD30.out.itemsR (by omega) (by decide)).mono ?_; rintro e wd ⟨IA30, ic30, rfl, hxa, hba⟩; have hTa := HTD30.out.below hba; have u300 : wd.cell? ⟨gr, 1, none⟩ = some (.pointer (some ⟨(d 1).q, 0, none⟩)) := hTa.br.cell 1; have HTwd := Lib.hid hTa; have HXwd := Lib.hid hxa; have HBwd := Lib.hid hba; clear hxa hba hTa)
                  | (go_at_call 11; refine (HTwd.out.idlesR (by omega) (by decide)).mono ?_; rintro e we ⟨IB30, ib30, rfl, hxb, hbb⟩; have hTb := HTwd.out.below hbb; have u301 : we.cell? ⟨gr, 1, none⟩ = some (.pointer (some ⟨(d 1).q, 0, none⟩)) := hTb.br.cell 1; have u302 : (we.alloc (.cells #[.slice IA30 (idsOf a 1).length ic30, .slice IB30 (idlOf a 1).length ib30] 35)).cell? ⟨gr, 1, none⟩ = some (.pointer (some ⟨(d 1).q, 0, none⟩)) := (hTb.br.alloc _).cell 1; have HTwe := Lib.hid hTb; have HXwe := Lib.hid hxb; have HBwe := Lib.hid hbb; clear hxb hbb hTb)
                  | (rw [if_pos (by rfl)]; refine wp_append_wide_at _ (.tmp 126) (.tmp 135) 30 rfl w0.heap.size 35 iL _ 1 24 Tryd.underlying30 hiL hzL0 hzL1 hzL2 rfl (by decide) _ Q.length (Q.flatMap IL.cs) rfl (HTwe.out.rowW.alloc _) ⟨we.heap.size, 0, none⟩ 2 2 [.slice IA30 (idsOf a 1).length ic30, .slice IB30 (idlOf a 1).length ib30] rfl rfl ?_ ?_ ?_ ?_ ?_ ?_; exact new_cells we 35 [.slice IA30 (idsOf a 1).length ic30, .slice IB30 (idlOf a 1).length ib30]; (simp [Value.oneCell']); (unfold maxLen; omega); (omega); (have := HTwe.out.bel.size; simp; omega); intro vwf wf hown hg hat; have hTc := HTD30.out.pushQs (m := os.length + 4) [⟨IA30, idsOf a 1, ic30⟩, ⟨IB30, idlOf a 1, ib30⟩] (HBwd.out.trans (HBwe.out.mono HBwd.out.size)) (two_rows (own_up HXwd.out HBwe.out) (row_weak HXwe.out HBwd.out.size)) hown hg hat (Nat.le_refl _) (by simp; omega); have u303 : wf.cell? ⟨gr, 1, none⟩ = some (.pointer (some ⟨(d 1).q, 0, none⟩)) := hTc.br.cell 1; have HTwf := Lib.hid hTc; clear hown hg hat hTc))
              go_wp2_with (fail)
              go_roundw
              case rel => exact ⟨2, _, _, _, _, by omega, rfl, rfl, by go_num, HTwf.out, by rw [List.map_append, List.map_append, HPQ.out]; rfl, by simp; omega, by simp; omega, by simp <;> omega⟩
              case measure => simp [intOf]
            · obtain ⟨OA, oc, rfl⟩ := own_slice HS.out.rowO
              obtain ⟨WA, wc, rfl⟩ := own_slice HS.out.rowW
              obtain ⟨gL, rfl⟩ := row_at0 HS.out.rowO (by omega)
              go_wp2_with (fail)
              refine (HS.out.same rfl rfl (by omega) HPQ.out).mono ?_
              rintro e w3 ⟨rfl, hb3⟩
              have HS3 := Lib.hid (HS.out.below hb3)
              clear hb3
              go_wp2_with (fail)
              refine (HS3.out.parts (by omega)).mono ?_
              rintro e w4 ⟨rfl, hb4, hS4⟩
              obtain ⟨VA, vc, hv⟩ := hS4.vSlice
              have HV := Lib.hid hv
              obtain ⟨fb, hfb⟩ : ∃ fb, decide ((d 1).room ≤ ((d 1).M.length : Int)) = fb := ⟨_, rfl⟩
              have HFB := Lib.hid hfb
              have x0w4 : w4.cell? ⟨gx, 0, none⟩ = some (.pointer (some ⟨(a 0).p, 0, none⟩)) := hS4.bx.cell 0; have x1w4 : w4.cell? ⟨gx, 1, none⟩ = some (.pointer (some ⟨(a 1).p, 0, none⟩)) := hS4.bx.cell 1; have z0w4 : w4.cell? ⟨gr, 0, none⟩ = some (.pointer (some ⟨(d 0).q, 0, none⟩)) := hS4.br.cell 0; have z1w4 : w4.cell? ⟨gr, 1, none⟩ = some (.pointer (some ⟨(d 1).q, 0, none⟩)) := hS4.br.cell 1; have l0w4 : w4.cell? ⟨(d 0).q, 1, none⟩ = some (.slice VA (d 0).M.length vc) := hS4.len0 HV.out
              obtain ⟨WD, hWD⟩ : ∃ X, w4.drew = X := ⟨_, rfl⟩
              have HTD := Lib.hid (hWD ▸ hS4.below (Below.refl w4.heap.size w4).drew)
              have HWD := Lib.hid hWD
              have HS4 := Lib.hid hS4
              clear hWD hS4 hb4 hv hfb HS HS3
              go_upto_region 33 with fail
              go_region_held3 (fun w' => w'.cell? ⟨gx, 0, none⟩ = some (.pointer (some ⟨(a 0).p, 0, none⟩)) ∧ w'.cell? ⟨gx, 1, none⟩ = some (.pointer (some ⟨(a 1).p, 0, none⟩)) ∧ w'.cell? ⟨gr, 0, none⟩ = some (.pointer (some ⟨(d 0).q, 0, none⟩)) ∧ w'.cell? ⟨gr, 1, none⟩ = some (.pointer (some ⟨(d 1).q, 0, none⟩)) ∧ w'.cell? ⟨(d 0).q, 1, none⟩ = some (.slice VA (d 0).M.length vc))
                (first | go_keep | fail)
                (first
                  | (go_at_call 8; rw [HWD.out]; refine (HTD.out.items (by omega) (by decide)).mono ?_; rintro e w5 ⟨A5, c5, rfl, hx, hb⟩; have HX5 := Lib.hid hx; clear hx; have hT := HTD.out.below hb; have x0w5 : w5.cell? ⟨gx, 0, none⟩ = some (.pointer (some ⟨(a 0).p, 0, none⟩)) := hT.bx.cell 0; have x1w5 : w5.cell? ⟨gx, 1, none⟩ = some (.pointer (some ⟨(a 1).p, 0, none⟩)) := hT.bx.cell 1; have z0w5 : w5.cell? ⟨gr, 0, none⟩ = some (.pointer (some ⟨(d 0).q, 0, none⟩)) := hT.br.cell 0; have z1w5 : w5.cell? ⟨gr, 1, none⟩ = some (.pointer (some ⟨(d 1).q, 0, none⟩)) := hT.br.cell 1; have l0w5 : w5.cell? ⟨(d 0).q, 1, none⟩ = some (.slice VA (d 0).M.length vc) := hT.len0 HV.out; have HTw5 := Lib.hid hT; clear hb hT)
                  | (go_at_call 9; refine (HTw5.out.itemsR (by omega) (by decide)).mono ?_; rintro e w6 ⟨A6, c6, rfl, hx, hb⟩; have HX6 := Lib.hid hx; have HY5 := Lib.hid (own_up HX5.out hb); clear hx; have hT := HTw5.out.below hb; have x0w6 : w6.cell? ⟨gx, 0, none⟩ = some (.pointer (some ⟨(a 0).p, 0, none⟩)) := hT.bx.cell 0; have x1w6 : w6.cell? ⟨gx, 1, none⟩ = some (.pointer (some ⟨(a 1).p, 0, none⟩)) := hT.bx.cell 1; have z0w6 : w6.cell? ⟨gr, 0, none⟩ = some (.pointer (some ⟨(d 0).q, 0, none⟩)) := hT.br.cell 0; have z1w6 : w6.cell? ⟨gr, 1, none⟩ = some (.pointer (some ⟨(d 1).q, 0, none⟩)) := hT.br.cell 1; have l0w6 : w6.cell? ⟨(d 0).q, 1, none⟩ = some (.slice VA (d 0).M.length vc) := hT.len0 HV.out; have HTw6 := Lib.hid hT; clear hb hT)
                  | (go_at_call 15; refine (sameI_below (idsOf a 0) A5 A6 c5 c6 w6 HY5.out HX6.out (by have := HTw6.out.idsN (j := 0) (by decide); omega)).mono ?_; rintro e w7 ⟨rfl, hb⟩; clear HX5 HY5 HX6; have hT := HTw6.out.below hb; have x0w7 : w7.cell? ⟨gx, 0, none⟩ = some (.pointer (some ⟨(a 0).p, 0, none⟩)) := hT.bx.cell 0; have x1w7 : w7.cell? ⟨gx, 1, none⟩ = some (.pointer (some ⟨(a 1).p, 0, none⟩)) := hT.bx.cell 1; have z0w7 : w7.cell? ⟨gr, 0, none⟩ = some (.pointer (some ⟨(d 0).q, 0, none⟩)) := hT.br.cell 0; have z1w7 : w7.cell? ⟨gr, 1, none⟩ = some (.pointer (some ⟨(d 1).q, 0, none⟩)) := hT.br.cell 1; have l0w7 : w7.cell? ⟨(d 0).q, 1, none⟩ = some (.slice VA (d 0).M.length vc) := hT.len0 HV.out; have HTw7 := Lib.hid hT; clear hb hT)
                  | (go_at_call 10; refine (HTw7.out.idle (by omega) (by decide)).mono ?_; rintro e w8 ⟨A8, c8, rfl, hx, hb⟩; have HX8 := Lib.hid hx; clear hx; have hT := HTw7.out.below hb; have x0w8 : w8.cell? ⟨gx, 0, none⟩ = some (.pointer (some ⟨(a 0).p, 0, none⟩)) := hT.bx.cell 0; have x1w8 : w8.cell? ⟨gx, 1, none⟩ = some (.pointer (some ⟨(a 1).p, 0, none⟩)) := hT.bx.cell 1; have z0w8 : w8.cell? ⟨gr, 0, none⟩ = some (.pointer (some ⟨(d 0).q, 0, none⟩)) := hT.br.cell 0; have z1w8 : w8.cell? ⟨gr, 1, none⟩ = some (.pointer (some ⟨(d 1).q, 0, none⟩)) := hT.br.cell 1; have l0w8 : w8.cell? ⟨(d 0).q, 1, none⟩ = some (.slice VA (d 0).M.length vc) := hT.len0 HV.out; have HTw8 := Lib.hid hT; clear hb hT)
                  | (go_at_call 11; refine (HTw8.out.idlesR (by omega) (by decide)).mono ?_; rintro e w9 ⟨A9, c9, rfl, hx, hb⟩; have HX9 := Lib.hid hx; have HY8 := Lib.hid (own_up HX8.out hb); clear hx; have hT := HTw8.out.below hb; have x0w9 : w9.cell? ⟨gx, 0, none⟩ = some (.pointer (some ⟨(a 0).p, 0, none⟩)) := hT.bx.cell 0; have x1w9 : w9.cell? ⟨gx, 1, none⟩ = some (.pointer (some ⟨(a 1).p, 0, none⟩)) := hT.bx.cell 1; have z0w9 : w9.cell? ⟨gr, 0, none⟩ = some (.pointer (some ⟨(d 0).q, 0, none⟩)) := hT.br.cell 0; have z1w9 : w9.cell? ⟨gr, 1, none⟩ = some (.pointer (some ⟨(d 1).q, 0, none⟩)) := hT.br.cell 1; have l0w9 : w9.cell? ⟨(d 0).q, 1, none⟩ = some (.slice VA (d 0).M.length vc) := hT.len0 HV.out; have HTw9 := Lib.hid hT; clear hb hT)
                  | (go_at_call 15; refine (sameI_below (idlOf a 1) A8 A9 c8 c9 w9 HY8.out HX9.out (by have := HTw9.out.idlN (j := 1) (by decide); omega)).mono ?_; rintro e wA ⟨rfl, hb⟩; have hT := HTw9.out.below hb; have x0wA : wA.cell? ⟨gx, 0, none⟩ = some (.pointer (some ⟨(a 0).p, 0, none⟩)) := hT.bx.cell 0; have x1wA : wA.cell? ⟨gx, 1, none⟩ = some (.pointer (some ⟨(a 1).p, 0, none⟩)) := hT.bx.cell 1; have z0wA : wA.cell? ⟨gr, 0, none⟩ = some (.pointer (some ⟨(d 0).q, 0, none⟩)) := hT.br.cell 0; have z1wA : wA.cell? ⟨gr, 1, none⟩ = some (.pointer (some ⟨(d 1).q, 0, none⟩)) := hT.br.cell 1; have l0wA : wA.cell? ⟨(d 0).q, 1, none⟩ = some (.slice VA (d 0).M.length vc) := hT.len0 HV.out; have HTwA := Lib.hid hT; clear hb hT)
                  | (go_at_call 16; refine (HTwA.out.lenC (by decide)).mono ?_; rintro e wB ⟨rfl, rfl⟩)
                  | (go_at_call 17; have hc := HTwA.out.fullC (j := 1) (by decide); rw [HFB.out] at hc; refine hc.mono ?_; rintro e wC ⟨rfl, hb⟩; have hT := HTwA.out.below hb; have x0wC : wC.cell? ⟨gx, 0, none⟩ = some (.pointer (some ⟨(a 0).p, 0, none⟩)) := hT.bx.cell 0; have x1wC : wC.cell? ⟨gx, 1, none⟩ = some (.pointer (some ⟨(a 1).p, 0, none⟩)) := hT.bx.cell 1; have z0wC : wC.cell? ⟨gr, 0, none⟩ = some (.pointer (some ⟨(d 0).q, 0, none⟩)) := hT.br.cell 0; have z1wC : wC.cell? ⟨gr, 1, none⟩ = some (.pointer (some ⟨(d 1).q, 0, none⟩)) := hT.br.cell 1; have l0wC : wC.cell? ⟨(d 0).q, 1, none⟩ = some (.slice VA (d 0).M.length vc) := hT.len0 HV.out; have HTwC := Lib.hid hT; clear hb hT hc)
                  | (go_at_call 18; have hc := HTwC.out.fullRC (j := 1) (by decide); rw [HFB.out] at hc; refine hc.mono ?_; rintro e wE ⟨rfl, hb⟩; have hT := HTwC.out.below hb; have x0wE : wE.cell? ⟨gx, 0, none⟩ = some (.pointer (some ⟨(a 0).p, 0, none⟩)) := hT.bx.cell 0; have x1wE : wE.cell? ⟨gx, 1, none⟩ = some (.pointer (some ⟨(a 1).p, 0, none⟩)) := hT.bx.cell 1; have z0wE : wE.cell? ⟨gr, 0, none⟩ = some (.pointer (some ⟨(d 0).q, 0, none⟩)) := hT.br.cell 0; have z1wE : wE.cell? ⟨gr, 1, none⟩ = some (.pointer (some ⟨(d 1).q, 0, none⟩)) := hT.br.cell 1; have l0wE : wE.cell? ⟨(d 0).q, 1, none⟩ = some (.slice VA (d 0).M.length vc) := hT.len0 HV.out; have HTwE := Lib.hid hT; clear hb hT hc))
              go_wp2
              go_ret
              exact ⟨by simp, HTwE.out.bel⟩
end Go.Proofs.YtmcknfpohnobdaaDoor
