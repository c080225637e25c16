/- custodylaw10.ChainScript by a contract (printed by gen_script.py). -/
import Derived.Test.YtmljiegeingpeaaDoorTwo
import Derived.Deep.DeepCutAuto
import Derived.Deep.CutBlock
namespace Go.Proofs.YtmljiegeingpeaaDoor
set_option linter.unusedSimpArgs false
set_option linter.unusedVariables false
open Go.RowKit

/-- A call of a script: its numbers are numbers of 64 bits. -/
structure OpS where
  on : Int
  kd : Int
  n : Int
  v : ByteArray
  wf : n ≤ 9223372036854775807
def OpS.cs (x : OpS) : List Value := [.int .i64 x.on, .int .i64 x.kd, .int .i64 x.n, .string x.v]
def opsC (l : List OpS) : List Value := l.flatMap OpS.cs
theorem OpS.len (x : OpS) : x.cs.length = 4 := rfl
theorem ops_at {w : World} {B : Nat} {A : Option Addr} {xs : List OpS} (h : Reads w B 4 A xs.length (opsC xs)) {k : Nat} (hk : k < xs.length) :
    ∃ ad, A = some ad ∧ ad.block < B ∧ w.cell? (ad.add (k * 4)) = some (.int .i64 xs[k].on) ∧ w.cell? ⟨(ad.add (k * 4)).block, (ad.add (k * 4)).off + 1, none⟩ = some (.int .i64 xs[k].kd) ∧ w.cell? ⟨(ad.add (k * 4)).block, (ad.add (k * 4)).off + 2, none⟩ = some (.int .i64 xs[k].n) ∧ w.cell? ⟨(ad.add (k * 4)).block, (ad.add (k * 4)).off + 3, none⟩ = some (.string xs[k].v) := by
  obtain ⟨ad, e, hb, h0, h1⟩ := Reads.elem OpS.len h hk
  exact ⟨ad, e, hb, h0 _ rfl, h1 1 _ (by omega) rfl, h1 2 _ (by omega) rfl, h1 3 _ (by omega) rfl⟩

theorem decV (x : List VerS) : decide (x = x) = true := by simp
theorem But.to_below {a b : World} {S : Nat → Prop} {B : Nat} (h : But a b S) (hS : ∀ i, S i → B ≤ i) (hB : B ≤ a.heap.size) : Below B a b :=
  ⟨h.os, h.tape, h.output, h.size, fun k hk => h.block k (by omega) (fun hs => by have := hS k hs; omega)⟩
theorem step_calls {p : Nat} {sv rv : Value} {L : List VerS} (q : Nat) (hq : q ≤ 5) (on kd n : Int) (v : ByteArray) (w : World) (h : Chn w p sv L) (hr : RowR w rv L) (hx : MaxV L) (hn : n ≤ 9223372036854775807) (hlen : L.length < 9382499223000) (hG : HG w) (hF : ∀ i, OfC p sv i → 0 < i) :
    Calls Tryd.prog 26 #[.pointer (some ⟨p, 0, none⟩), rv, .agg #[.int .i64 on, .int .i64 kd, .int .i64 n, .string v], .int .i64 q] w (StepTo w p sv L) := by
  match q, hq with
  | 0, _ => exact step0_calls on kd n v w h hr hx hn hlen hG hF
  | 1, _ => exact step1_calls on kd n v w h hr hx hn hlen hG hF
  | 2, _ => exact step2_calls on kd n v w h hr hx hn hlen hG hF
  | 3, _ => exact step3_calls on kd n v w h hr hx hn hlen hG hF
  | 4, _ => exact step4_calls on kd n v w h hr hx hn hlen hG hF
  | 5, _ => exact step5_calls on kd n v w h hr hx hn hlen hG hF

set_option maxRecDepth 100000 in
set_option maxHeartbeats 8000000 in
theorem lawScript_calls (l : List OpS) (A : Option Addr) (c : Nat) (w : World) (hr : Reads w w.heap.size 4 A l.length (opsC l)) (hlen : l.length * 40 ≤ 140737488355328) (hG : HG w) :
    Calls Tryd.prog 5 #[.slice A l.length c] w fun e w' => e = .returned (.bool true) ∧ Below w.heap.size w w' := by
  have hll : l.length < 9382499223000 := by omega
  go_enter Tryd.func5, Tryd.ntmps5
  go_wp2_with (fail)
  refine (newChain_calls w).mono ?_
  rintro e w1 ⟨rfl, hC0, hb1⟩
  have HC0 := Lib.hid hC0
  have HB1 := Lib.hid hb1
  have hlt1 := hC0.blk.lt
  obtain ⟨q0, hq0⟩ : ∃ q, w.heap.size = q := ⟨_, rfl⟩
  obtain ⟨q1, hq1⟩ : ∃ q, w1.heap.size = q := ⟨_, rfl⟩
  rw [hq0]
  clear hC0 hb1
  go_wp2_with (fail)
  refine (newChain_calls w1).mono ?_
  rintro e w2 ⟨rfl, hC1, hb2⟩
  rw [hq1]
  have HC1 := Lib.hid hC1
  have HB2 := Lib.hid hb2
  have hlt2 := hC1.blk.lt
  obtain ⟨gx, hgx⟩ : ∃ q, w2.heap.size = q := ⟨_, rfl⟩
  clear hC1 hb2
  go_wp2_with (fail)
  obtain ⟨W3, hW3⟩ : ∃ W, (w2.alloc (.cells #[.pointer (some ⟨q0, 0, none⟩), .pointer (some ⟨q1, 0, none⟩)] 60)).alloc (.cells #[.slice none 0 0, .slice none 0 0] 61) = W := ⟨_, rfl⟩
  obtain ⟨gr, hgr⟩ : ∃ q, gx + 1 = q := ⟨_, rfl⟩
  have hb3 : Below w2.heap.size w2 W3 := hW3 ▸ ((Below.refl _ _).alloc (Nat.le_refl _) _).alloc (by simp) _
  have bx : Blk W3 gx 60 #[.pointer (some ⟨q0, 0, none⟩), .pointer (some ⟨q1, 0, none⟩)] := by rw [← hW3, ← hgx]; exact (Blk.new _ _ _).alloc _
  have br : Blk W3 gr 61 #[.slice none 0 0, .slice none 0 0] := by
    rw [← hW3, ← hgr, ← hgx]
    have h := Blk.new (w2.alloc (.cells #[.pointer (some ⟨q0, 0, none⟩), .pointer (some ⟨q1, 0, none⟩)] 60)) 61 #[.slice none 0 0, .slice none 0 0]
    rw [show (w2.alloc (.cells #[.pointer (some ⟨q0, 0, none⟩), .pointer (some ⟨q1, 0, none⟩)] 60)).heap.size = w2.heap.size + 1 by simp] at h
    exact h
  have hBW : Below w.heap.size w W3 := (HB1.out.trans (HB2.out.mono HB1.out.size)).trans (hb3.mono (Nat.le_trans HB1.out.size HB2.out.size))
  have hT : Two w.heap.size 0 W3 gx gr q0 q1 (.slice none 0 0) (.slice none 0 0) (.slice none 0 0) (.slice none 0 0) [] [] := by
    have hof : ∀ (p : Nat) i, OfC p (.slice none 0 0) i → i = p := by
      rintro p i (rfl | hi)
      · rfl
      · cases hi
    refine ⟨bx, br, ?_, ?_, World.ownsRow_nil _ _ _ _, World.ownsRow_nil _ _ _ _, (fun x hx => by cases hx), (fun x hx => by cases hx), Nat.le_refl _, Nat.le_refl _, fun i h0 h1 => ?_, fun i h0 => ?_, fun i h0 => ?_⟩
    · exact hq0 ▸ (HC0.out.below HB2.out).below hb3
    · exact hq1 ▸ HC1.out.below hb3
    · have e0 := hof _ i h0; have e1 := hof _ i h1; omega
    · have e0 := hof _ i h0; omega
    · have e0 := hof _ i h0; have := HB1.out.size; omega
  have HGX := Lib.hid (by have := HB1.out.size; have := HB2.out.size; omega : w.heap.size ≤ gx)
  have HGR := Lib.hid (by have := HB1.out.size; have := HB2.out.size; omega : w.heap.size ≤ gr)
  rw [hgr, hW3]
  clear hW3 hb3 bx br HC0 HC1 HB1 HB2 hlt1 hlt2 hgr hq0 hq1 hgx
  have HR := Lib.hid hr
  have HGG := Lib.hid hG
  have HT := Lib.hid hT
  have HBW := Lib.hid hBW
  clear hr hG hT hBW
  go_loopw [5] (fun i wr => ∃ (k : Nat) (p0 p1 : Nat) (s0 s1 r0 r1 : Value) (L0 L1 : List VerS), k ≤ l.length ∧ i = .int .i64 k ∧ Two w.heap.size k wr gx gr p0 p1 s0 s1 r0 r1 L0 L1 ∧ Below w.heap.size w wr) (fun i _ => l.length - (intOf i).toNat)
  case atStart => exact ⟨0, q0, q1, _, _, _, _, _, _, Nat.zero_le _, rfl, HT.out, HBW.out⟩
  case round =>
    clear HT HBW
    obtain ⟨k, p0, p1, s0, s1, r0, r1, L0, L1, hk, rfl, hT, hB⟩ := hrel
    by_cases hlt : k < l.length
    · have hkl : (k : Int) < l.length := by omega
      obtain ⟨ad, rfl, hadb, e0, e1, e2, e3⟩ := ops_at (HR.out.below hB) hlt
      have hwf := l[k].wf
      generalize l[k].on = on at e0
      generalize l[k].kd = kd at e1
      generalize l[k].n = n at e2 hwf
      generalize l[k].v = v at e3
      obtain ⟨go, hgo⟩ : ∃ q, wr.heap.size = q := ⟨_, rfl⟩
      have HT := Lib.hid hT
      have HB := Lib.hid hB
      clear hT hB
      go_wp2_with (fail)
      obtain ⟨W0, hW0⟩ : ∃ W, wr.alloc (.cells #[.int .i64 on, .int .i64 kd, .int .i64 n, .string v] 48) = W := ⟨_, rfl⟩
      have hb0 : Below wr.heap.size wr W0 := hW0 ▸ (Below.refl _ _).alloc (Nat.le_refl _) _
      have hO : Blk W0 go 48 #[.int .i64 on, .int .i64 kd, .int .i64 n, .string v] := by rw [← hW0, ← hgo]; exact Blk.new _ _ _
      replace HT := Lib.hid (HT.out.below hb0)
      replace HB := Lib.hid (HB.out.trans (hb0.mono HB.out.size))
      have o0 : W0.cell? ⟨go, 0, none⟩ = some (.int .i64 on) := hO.cell 0
      have o1 : W0.cell? ⟨go, 1, none⟩ = some (.int .i64 kd) := hO.cell 1
      have o2 : W0.cell? ⟨go, 2, none⟩ = some (.int .i64 n) := hO.cell 2
      have o3 : W0.cell? ⟨go, 3, none⟩ = some (.string v) := hO.cell 3
      have HO := Lib.hid hO
      rw [hW0]
      clear hW0 hb0 hO hgo e0 e1 e2 e3
      refine (pick_calls on 2 W0 (by omega) (by omega)).mono ?_
      rintro e w' ⟨a, rfl, ha, rfl⟩
      go_wp2_with (fail)
      refine (pick_calls kd 7 w' (by omega) (by omega)).mono ?_
      rintro e w'' ⟨q, rfl, hq, rfl⟩
      rename World => W0
      have ha2 : a = 0 ∨ a = 1 := by omega
      rcases ha2 with rfl | rfl
      · by_cases hq6 : q = 6
        · subst hq6
          have y0 : W0.cell? ⟨gx, 0, none⟩ = some (.pointer (some ⟨p0, 0, none⟩)) := HT.out.bx.cell 0
          go_wp2_with (fail)
          refine (newChain_calls W0).mono ?_
          rintro e w3 ⟨rfl, hC3, hb3⟩
          obtain ⟨pn, hpn⟩ : ∃ q, W0.heap.size = q := ⟨_, rfl⟩
          have hT3 := HT.out.fresh0 (hpn ▸ hC3) (by omega) hb3 HB.out.size
          have y1 : w3.cell? ⟨gx, 0, none⟩ = some (.pointer (some ⟨p0, 0, none⟩)) := (HT.out.bx.below hb3 HT.out.bx.lt).cell 0
          have y2 : w3.frozen? ⟨gx, 0, none⟩ = false := (HT.out.bx.below hb3 HT.out.bx.lt).frozen 0
          have y3 : w3.cell? ⟨gr, 0, none⟩ = some r0 := (HT.out.br.below hb3 HT.out.br.lt).cell 0
          have y4 : w3.frozen? ⟨gr, 0, none⟩ = false := (HT.out.br.below hb3 HT.out.br.lt).frozen 0
          have y5 : ((w3.setCell ⟨gx, 0, none⟩ (.pointer (some ⟨pn, 0, none⟩))).setCell ⟨gr, 0, none⟩ (.slice none 0 0)).cell? ⟨gx, 0, none⟩ = some (.pointer (some ⟨pn, 0, none⟩)) := hT3.bx.cell 0
          have hxr : gx ≠ gr := HT.out.bx.ne_ HT.out.br (by decide)
          have y6 : (w3.setCell ⟨gx, 0, none⟩ (.pointer (some ⟨pn, 0, none⟩))).cell? ⟨gr, 0, none⟩ = some r0 := ((HT.out.br.below hb3 HT.out.br.lt).far (p := ⟨gx, 0, none⟩) (Ne.symm hxr) _).cell 0
          have y7 : (w3.setCell ⟨gx, 0, none⟩ (.pointer (some ⟨pn, 0, none⟩))).frozen? ⟨gr, 0, none⟩ = false := ((HT.out.br.below hb3 HT.out.br.lt).far (p := ⟨gx, 0, none⟩) (Ne.symm hxr) _).frozen 0
          have s3 := hb3.size
          rw [hpn]
          have HT3 := Lib.hid hT3
          have HB3 := Lib.hid (HB.out.trans (hb3.mono HB.out.size))
          clear hT3 hC3 hb3 hpn hxr
          go_wp2_with (fail)
          go_roundw
          case rel => exact ⟨k + 1, _, _, _, _, _, _, _, _, by omega, by go_num, HT3.out.up (by omega), (HB3.out.setCell (p := ⟨gx, 0, none⟩) HGX.out _).setCell (p := ⟨gr, 0, none⟩) HGR.out _⟩
          case measure => simp [intOf]; omega
        · have hq6' : ((q : Int) == 6) = false := by simp; omega
          have y0 : W0.cell? ⟨gx, 0, none⟩ = some (.pointer (some ⟨p0, 0, none⟩)) := HT.out.bx.cell 0
          have y1 : W0.cell? ⟨gr, 0, none⟩ = some r0 := HT.out.br.cell 0
          obtain ⟨WD, hWD⟩ : ∃ W, W0.drew = W := ⟨_, rfl⟩
          have HTD := Lib.hid (hWD ▸ HT.out.below (Below.refl W0.heap.size W0).drew)
          have HOD := Lib.hid (hWD ▸ (show Blk W0.drew go 48 #[.int .i64 on, .int .i64 kd, .int .i64 n, .string v] from HO.out))
          have HBD := Lib.hid (hWD ▸ HB.out.drew)
          have HGD := Lib.hid (HGG.out.below HBD.out)
          have HWD := Lib.hid hWD
          have hF := Lib.hid (fun i hi => Nat.lt_of_lt_of_le HGG.out.lt (HTD.out.f0 i hi))
          have HLL := Lib.hid (by have := HTD.out.l0; omega : L0.length < 9382499223000)
          clear hWD
          go_upto_region 16 with fail
          go_region_held3 (fun w' => w'.cell? ⟨gx, 0, none⟩ = some (.pointer (some ⟨p0, 0, none⟩)) ∧ w'.cell? ⟨gr, 0, none⟩ = some r0 ∧ w'.cell? ⟨go, 0, none⟩ = some (.int .i64 on) ∧ w'.cell? ⟨go, 1, none⟩ = some (.int .i64 kd) ∧ w'.cell? ⟨go, 2, none⟩ = some (.int .i64 n) ∧ w'.cell? ⟨go, 3, none⟩ = some (.string v)) (first | go_keep | fail)
            (first | (go_at_call 26; rw [HWD.out]; refine (step_calls q (by omega) on kd n v WD HTD.out.c0 HTD.out.w0 HTD.out.m0 hwf HLL.out HGD.out hF.out).mono ?_; rintro e w3 ⟨sv', rv', L', rfl, hC', hR', hM', hl', hb', hs'⟩; obtain ⟨RA, rc, rfl⟩ := own_slice hR'; have bx3 := HTD.out.bx.but hb' (of_blk_ne HTD.out.bx HTD.out.c0 (by decide) (by decide)); have br3 := HTD.out.br.but hb' (of_blk_ne HTD.out.br HTD.out.c0 (by decide) (by decide)); have bo3 := HOD.out.but hb' (of_blk_ne HOD.out HTD.out.c0 (by decide) (by decide)); have u0 : w3.cell? ⟨gx, 0, none⟩ = some (.pointer (some ⟨p0, 0, none⟩)) := bx3.cell 0; have u1 : w3.cell? ⟨gr, 0, none⟩ = some r0 := br3.cell 0; have u2 : w3.frozen? ⟨gr, 0, none⟩ = false := br3.frozen 0; have t0 : w3.cell? ⟨go, 0, none⟩ = some (.int .i64 on) := bo3.cell 0; have t1 : w3.cell? ⟨go, 1, none⟩ = some (.int .i64 kd) := bo3.cell 1; have t2 : w3.cell? ⟨go, 2, none⟩ = some (.int .i64 n) := bo3.cell 2; have t3 : w3.cell? ⟨go, 3, none⟩ = some (.string v) := bo3.cell 3; have hS3 := HTD.out.step0 hC' hR' hM' hl' hb' hs' HBD.out.size; have HS3 := Lib.hid hS3; have HB3 := Lib.hid (HBD.out.trans (hb'.to_below HTD.out.f0 HBD.out.size)); clear bx3 br3 bo3 hC' hR' hM' hl' hb' hs' hS3))
          go_wp2_with (fail)
          go_roundw
          case rel => exact ⟨k + 1, _, _, _, _, _, _, _, _, by omega, by go_num, HS3.out, HB3.out.setCell (p := ⟨gr, 0, none⟩) HGR.out _⟩
          case measure => simp [intOf]; omega
      · by_cases hq6 : q = 6
        · subst hq6
          have y0 : W0.cell? ⟨gx, 1, none⟩ = some (.pointer (some ⟨p1, 0, none⟩)) := HT.out.bx.cell 1
          go_wp2_with (fail)
          refine (newChain_calls W0).mono ?_
          rintro e w3 ⟨rfl, hC3, hb3⟩
          obtain ⟨pn, hpn⟩ : ∃ q, W0.heap.size = q := ⟨_, rfl⟩
          have hT3 := HT.out.fresh1 (hpn ▸ hC3) (by omega) hb3 HB.out.size
          have y1 : w3.cell? ⟨gx, 1, none⟩ = some (.pointer (some ⟨p1, 0, none⟩)) := (HT.out.bx.below hb3 HT.out.bx.lt).cell 1
          have y2 : w3.frozen? ⟨gx, 1, none⟩ = false := (HT.out.bx.below hb3 HT.out.bx.lt).frozen 1
          have y3 : w3.cell? ⟨gr, 1, none⟩ = some r1 := (HT.out.br.below hb3 HT.out.br.lt).cell 1
          have y4 : w3.frozen? ⟨gr, 1, none⟩ = false := (HT.out.br.below hb3 HT.out.br.lt).frozen 1
          have y5 : ((w3.setCell ⟨gx, 1, none⟩ (.pointer (some ⟨pn, 0, none⟩))).setCell ⟨gr, 1, none⟩ (.slice none 0 0)).cell? ⟨gx, 1, none⟩ = some (.pointer (some ⟨pn, 0, none⟩)) := hT3.bx.cell 1
          have hxr : gx ≠ gr := HT.out.bx.ne_ HT.out.br (by decide)
          have y6 : (w3.setCell ⟨gx, 1, none⟩ (.pointer (some ⟨pn, 0, none⟩))).cell? ⟨gr, 1, none⟩ = some r1 := ((HT.out.br.below hb3 HT.out.br.lt).far (p := ⟨gx, 1, none⟩) (Ne.symm hxr) _).cell 1
          have y7 : (w3.setCell ⟨gx, 1, none⟩ (.pointer (some ⟨pn, 0, none⟩))).frozen? ⟨gr, 1, none⟩ = false := ((HT.out.br.below hb3 HT.out.br.lt).far (p := ⟨gx, 1, none⟩) (Ne.symm hxr) _).frozen 1
          have s3 := hb3.size
          rw [hpn]
          have HT3 := Lib.hid hT3
          have HB3 := Lib.hid (HB.out.trans (hb3.mono HB.out.size))
          clear hT3 hC3 hb3 hpn hxr
          go_wp2_with (fail)
          go_roundw
          case rel => exact ⟨k + 1, _, _, _, _, _, _, _, _, by omega, by go_num, HT3.out.up (by omega), (HB3.out.setCell (p := ⟨gx, 1, none⟩) HGX.out _).setCell (p := ⟨gr, 1, none⟩) HGR.out _⟩
          case measure => simp [intOf]; omega
        · have hq6' : ((q : Int) == 6) = false := by simp; omega
          have y0 : W0.cell? ⟨gx, 1, none⟩ = some (.pointer (some ⟨p1, 0, none⟩)) := HT.out.bx.cell 1
          have y1 : W0.cell? ⟨gr, 1, none⟩ = some r1 := HT.out.br.cell 1
          obtain ⟨WD, hWD⟩ : ∃ W, W0.drew = W := ⟨_, rfl⟩
          have HTD := Lib.hid (hWD ▸ HT.out.below (Below.refl W0.heap.size W0).drew)
          have HOD := Lib.hid (hWD ▸ (show Blk W0.drew go 48 #[.int .i64 on, .int .i64 kd, .int .i64 n, .string v] from HO.out))
          have HBD := Lib.hid (hWD ▸ HB.out.drew)
          have HGD := Lib.hid (HGG.out.below HBD.out)
          have HWD := Lib.hid hWD
          have hF := Lib.hid (fun i hi => Nat.lt_of_lt_of_le HGG.out.lt (HTD.out.f1 i hi))
          have HLL := Lib.hid (by have := HTD.out.l1; omega : L1.length < 9382499223000)
          clear hWD
          go_upto_region 16 with fail
          go_region_held3 (fun w' => w'.cell? ⟨gx, 1, none⟩ = some (.pointer (some ⟨p1, 0, none⟩)) ∧ w'.cell? ⟨gr, 1, none⟩ = some r1 ∧ w'.cell? ⟨go, 0, none⟩ = some (.int .i64 on) ∧ w'.cell? ⟨go, 1, none⟩ = some (.int .i64 kd) ∧ w'.cell? ⟨go, 2, none⟩ = some (.int .i64 n) ∧ w'.cell? ⟨go, 3, none⟩ = some (.string v)) (first | go_keep | fail)
            (first | (go_at_call 26; rw [HWD.out]; refine (step_calls q (by omega) on kd n v WD HTD.out.c1 HTD.out.w1 HTD.out.m1 hwf HLL.out HGD.out hF.out).mono ?_; rintro e w3 ⟨sv', rv', L', rfl, hC', hR', hM', hl', hb', hs'⟩; obtain ⟨RA, rc, rfl⟩ := own_slice hR'; have bx3 := HTD.out.bx.but hb' (of_blk_ne HTD.out.bx HTD.out.c1 (by decide) (by decide)); have br3 := HTD.out.br.but hb' (of_blk_ne HTD.out.br HTD.out.c1 (by decide) (by decide)); have bo3 := HOD.out.but hb' (of_blk_ne HOD.out HTD.out.c1 (by decide) (by decide)); have u0 : w3.cell? ⟨gx, 1, none⟩ = some (.pointer (some ⟨p1, 0, none⟩)) := bx3.cell 1; have u1 : w3.cell? ⟨gr, 1, none⟩ = some r1 := br3.cell 1; have u2 : w3.frozen? ⟨gr, 1, none⟩ = false := br3.frozen 1; have t0 : w3.cell? ⟨go, 0, none⟩ = some (.int .i64 on) := bo3.cell 0; have t1 : w3.cell? ⟨go, 1, none⟩ = some (.int .i64 kd) := bo3.cell 1; have t2 : w3.cell? ⟨go, 2, none⟩ = some (.int .i64 n) := bo3.cell 2; have t3 : w3.cell? ⟨go, 3, none⟩ = some (.string v) := bo3.cell 3; have hS3 := HTD.out.step1 hC' hR' hM' hl' hb' hs' HBD.out.size; have HS3 := Lib.hid hS3; have HB3 := Lib.hid (HBD.out.trans (hb'.to_below HTD.out.f1 HBD.out.size)); clear bx3 br3 bo3 hC' hR' hM' hl' hb' hs' hS3))
          go_wp2_with (fail)
          go_roundw
          case rel => exact ⟨k + 1, _, _, _, _, _, _, _, _, by omega, by go_num, HS3.out, HB3.out.setCell (p := ⟨gr, 1, none⟩) HGR.out _⟩
          case measure => simp [intOf]; omega
    · obtain rfl : k = l.length := by omega
      obtain ⟨A0, z0, rfl⟩ := own_slice hT.w0
      obtain ⟨A1, z1, rfl⟩ := own_slice hT.w1
      have y0 : wr.cell? ⟨gx, 0, none⟩ = some (.pointer (some ⟨p0, 0, none⟩)) := hT.bx.cell 0
      have y1 : wr.cell? ⟨gx, 1, none⟩ = some (.pointer (some ⟨p1, 0, none⟩)) := hT.bx.cell 1
      have y2 : wr.cell? ⟨gr, 0, none⟩ = some (.slice A0 L0.length z0) := hT.br.cell 0
      have y3 : wr.cell? ⟨gr, 1, none⟩ = some (.slice A1 L1.length z1) := hT.br.cell 1
      obtain ⟨WD, hWD⟩ : ∃ W, wr.drew = W := ⟨_, rfl⟩
      have HTD := Lib.hid (hWD ▸ hT.below (Below.refl wr.heap.size wr).drew)
      have HBD := Lib.hid (hWD ▸ hB.drew)
      have HWD := Lib.hid hWD
      clear hWD hT hB
      go_upto_region 20 with fail
      go_region_held3 (fun w' => w'.cell? ⟨gx, 0, none⟩ = some (.pointer (some ⟨p0, 0, none⟩)) ∧ w'.cell? ⟨gx, 1, none⟩ = some (.pointer (some ⟨p1, 0, none⟩)) ∧ w'.cell? ⟨gr, 0, none⟩ = some (.slice A0 L0.length z0) ∧ w'.cell? ⟨gr, 1, none⟩ = some (.slice A1 L1.length z1)) (first | go_keep | fail)
        (first
          | (go_at_call 28; rw [HWD.out]; refine (allV_calls (L0.length : Int) WD HTD.out.c0 (Int.le_refl _)).mono ?_; rintro e w3 ⟨v3, rfl, hr3, hb3⟩; obtain ⟨VA, vc, rfl⟩ := own_slice hr3; have HT3 := Lib.hid (HTD.out.below hb3); have HR3 := Lib.hid hr3; have HB3 := Lib.hid (HBD.out.trans (hb3.mono HBD.out.size)); have y0w3 : w3.cell? ⟨gx, 0, none⟩ = some (.pointer (some ⟨p0, 0, none⟩)) := HT3.out.bx.cell 0; have y1w3 : w3.cell? ⟨gx, 1, none⟩ = some (.pointer (some ⟨p1, 0, none⟩)) := HT3.out.bx.cell 1; have y2w3 : w3.cell? ⟨gr, 0, none⟩ = some (.slice A0 L0.length z0) := HT3.out.br.cell 0; have y3w3 : w3.cell? ⟨gr, 1, none⟩ = some (.slice A1 L1.length z1) := HT3.out.br.cell 1; clear hr3 hb3 HWD)
          | (go_at_call 27; refine (sameV_calls L0 L0 VA A0 vc z0 w3 (Reads.of_own HR3.out) (Reads.of_own HT3.out.w0) HT3.out.c0.len).mono ?_; rintro e w4 ⟨rfl, hb4⟩; rw [decV]; have HT4 := Lib.hid (HT3.out.below hb4); have HB4 := Lib.hid (HB3.out.trans (hb4.mono HB3.out.size)); have y0w4 : w4.cell? ⟨gx, 0, none⟩ = some (.pointer (some ⟨p0, 0, none⟩)) := HT4.out.bx.cell 0; have y1w4 : w4.cell? ⟨gx, 1, none⟩ = some (.pointer (some ⟨p1, 0, none⟩)) := HT4.out.bx.cell 1; have y2w4 : w4.cell? ⟨gr, 0, none⟩ = some (.slice A0 L0.length z0) := HT4.out.br.cell 0; have y3w4 : w4.cell? ⟨gr, 1, none⟩ = some (.slice A1 L1.length z1) := HT4.out.br.cell 1; clear hb4 HR3)
          | (go_at_call 28; refine (allV_calls (L1.length : Int) w4 HT4.out.c1 (Int.le_refl _)).mono ?_; rintro e w5 ⟨v5, rfl, hr5, hb5⟩; obtain ⟨VB, vd, rfl⟩ := own_slice hr5; have HT5 := Lib.hid (HT4.out.below hb5); have HR5 := Lib.hid hr5; have HB5 := Lib.hid (HB4.out.trans (hb5.mono HB4.out.size)); have y0w5 : w5.cell? ⟨gx, 0, none⟩ = some (.pointer (some ⟨p0, 0, none⟩)) := HT5.out.bx.cell 0; have y1w5 : w5.cell? ⟨gx, 1, none⟩ = some (.pointer (some ⟨p1, 0, none⟩)) := HT5.out.bx.cell 1; have y2w5 : w5.cell? ⟨gr, 0, none⟩ = some (.slice A0 L0.length z0) := HT5.out.br.cell 0; have y3w5 : w5.cell? ⟨gr, 1, none⟩ = some (.slice A1 L1.length z1) := HT5.out.br.cell 1; clear hr5 hb5)
          | (go_at_call 27; refine (sameV_calls L1 L1 VB A1 vd z1 w5 (Reads.of_own HR5.out) (Reads.of_own HT5.out.w1) HT5.out.c1.len).mono ?_; rintro e w6 ⟨rfl, hb6⟩; rw [decV]; have HT6 := Lib.hid (HT5.out.below hb6); have HB6 := Lib.hid (HB5.out.trans (hb6.mono HB5.out.size)); have HT7 := HT6; have y0w6 : w6.cell? ⟨gx, 0, none⟩ = some (.pointer (some ⟨p0, 0, none⟩)) := HT6.out.bx.cell 0; have y1w6 : w6.cell? ⟨gx, 1, none⟩ = some (.pointer (some ⟨p1, 0, none⟩)) := HT6.out.bx.cell 1; have y2w6 : w6.cell? ⟨gr, 0, none⟩ = some (.slice A0 L0.length z0) := HT6.out.br.cell 0; have y3w6 : w6.cell? ⟨gr, 1, none⟩ = some (.slice A1 L1.length z1) := HT6.out.br.cell 1; clear hb6)
          | (go_at_call 12; refine (len_calls w6 HT7.out.c0).mono ?_; rintro e w7 ⟨rfl, rfl⟩; clear HT7)
          | (go_at_call 12; refine (len_calls _ HT6.out.c1).mono ?_; rintro e w8 ⟨rfl, rfl⟩))
      go_wp2
      go_ret
      exact ⟨rfl, HB6.out⟩
end Go.Proofs.YtmljiegeingpeaaDoor
