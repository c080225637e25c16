/- The law ChainWalks walked. -/
import Derived.Test.YtmljiegeingpeaaDoorWalksQ10
namespace Go.Proofs.YtmljiegeingpeaaDoor
set_option linter.unusedSimpArgs false
set_option linter.unusedVariables false
open Go.RowKit Go.Shelf
attribute [local go_sem] Oper.semAt_some

theorem run_store_funcV {P : Program} {w : World} {a : Addr} {m : Mode} (fn : Fn) (first captured : Array Value) : (store a (.func fn first captured) m).run P w = stored P w a (.func fn first captured) m := run_store P w a _ m rfl
attribute [local go_sem] run_store_funcV

set_option maxRecDepth 100000 in
set_option maxHeartbeats 4000000 in
set_option pp.deepTerms true in
set_option pp.maxSteps 10000000 in
set_option pp.deepTerms true in
set_option pp.maxSteps 10000000 in
set_option pp.deepTerms true in
set_option pp.maxSteps 10000000 in
set_option pp.deepTerms true in
set_option pp.maxSteps 10000000 in
theorem lawWalks_calls (puts acts : List ActS) (stop : Int) (PA AA : Option Addr) (pc ac : Nat) (w : World) (hp : Reads w w.heap.size 3 PA puts.length (actsC puts)) (ha : Reads w w.heap.size 3 AA acts.length (actsC acts)) (hl : puts.length + acts.length < 9382499222999) :
    Calls Tryd.prog 32 #[.slice PA puts.length pc, .slice AA acts.length ac, .int .i64 stop] w fun e w' => e = .returned (.bool true) ∧ Below w.heap.size w w' := by
  obtain ⟨i0, hi0, hz0, hz1, hz2⟩ := info_parts infoVersR
  refine (callsIn_wide (n := 6)).1 ?_
  refine callsIn_of_wp_marks Tryd.func32 rfl trivial ?_ rfl
  simp only [Tryd.ntmps32, List.size_toArray, List.length_cons, List.length_nil, Nat.reduceAdd, Nat.reduceSub, Array.replicate_succ, Array.replicate_zero, List.push_toArray, List.append_toArray, List.nil_append, List.cons_append]
  obtain ⟨g, hg⟩ : ∃ g, w.heap.size = g := ⟨_, rfl⟩
  have HP := Lib.hid hp
  have HA := Lib.hid ha
  have HL := Lib.hid hl
  have hnil := eql_func_nil
  clear hp ha hl
  obtain ⟨W0, hW0⟩ : ∃ W0, ((w.alloc (.cells #[.slice AA acts.length ac] 22)).alloc (.cells #[.int .i64 stop] 3)).alloc (.cells #[.bool false] 4) = W0 := ⟨_, rfl⟩
  have s1 : ∀ (v : World) (o : Obj), (v.alloc o).heap.size = v.heap.size + 1 := fun v o => by simp
  have hB0 : Below w.heap.size w W0 := hW0 ▸ (((Below.refl _ _).alloc (Nat.le_refl _) _).alloc (by simp) _).alloc (by simp; omega) _
  have b0 : Blk W0 g 22 #[.slice AA acts.length ac] := by
    rw [← hW0, ← hg]; exact ((Blk.new w _ _).alloc _).alloc _
  have b1 : Blk W0 (g + 1) 3 #[.int .i64 stop] := by
    rw [← hW0, ← hg]; have h := Blk.new (w.alloc (.cells #[.slice AA acts.length ac] 22)) 3 #[.int .i64 stop]; rw [s1] at h; exact h.alloc _
  have b2 : Blk W0 (g + 1 + 1) 4 #[.bool false] := by
    rw [← hW0, ← hg]; have h := Blk.new ((w.alloc (.cells #[.slice AA acts.length ac] 22)).alloc (.cells #[.int .i64 stop] 3)) 4 #[.bool false]; rw [s1, s1] at h; exact h
  have HB0 := Lib.hid hB0
  have HX0 := Lib.hid b0
  have HX1 := Lib.hid b1
  have HX2 := Lib.hid b2
  clear hB0 b0 b1 b2
  gi_wp2_with (fail)
  refine ⟨trivial, ?_⟩
  gi_at_call 52
  refine (callsIn_wide.2 (laid_calls puts PA pc w.heap.size W0 (HP.out.below HB0.out) HB0.out.size (by have := HL.out; omega))).mono ?_
  rintro e w1 ⟨p, cv, rv, rfl, hC1, hR1, hb1, hF1⟩
  have hM1 : MaxV (laidL puts puts.length) := laidL_max _ _
  have hLn := laidL_len puts puts.length
  generalize laidL puts puts.length = L at hC1 hR1 hM1 hLn
  obtain ⟨RA, rc, rfl⟩ := own_slice hR1
  obtain ⟨gx, hgx⟩ : ∃ gx, w1.heap.size = gx := ⟨_, rfl⟩
  obtain ⟨W2, hW2⟩ : ∃ X, ((w1.alloc (.cells #[.pointer (some ⟨p, 0, none⟩)] 23)).alloc (.cells #[.pointer (some ⟨p, 0, none⟩)] 23)).alloc (.cells #[.func (.func 34) #[] #[.pointer (some ⟨gx + 1, 0, none⟩)]] 35) = X := ⟨_, rfl⟩
  have hb2 : Below w1.heap.size w1 W2 := hW2 ▸ (((Below.refl _ _).alloc (Nat.le_refl _) _).alloc (by simp) _).alloc (by simp; omega) _
  have d0 : Blk W2 gx 23 #[.pointer (some ⟨p, 0, none⟩)] := by
    rw [← hW2, ← hgx]; exact ((Blk.new w1 _ _).alloc _).alloc _
  have d1 : Blk W2 (gx + 1) 23 #[.pointer (some ⟨p, 0, none⟩)] := by
    rw [← hW2, ← hgx]; have h := Blk.new (w1.alloc (.cells #[.pointer (some ⟨p, 0, none⟩)] 23)) 23 #[.pointer (some ⟨p, 0, none⟩)]; rw [s1] at h; exact h.alloc _
  have d2 : Blk W2 (gx + 1 + 1) 35 #[.func (.func 34) #[] #[.pointer (some ⟨gx + 1, 0, none⟩)]] := by
    rw [← hW2, ← hgx]; have h := Blk.new ((w1.alloc (.cells #[.pointer (some ⟨p, 0, none⟩)] 23)).alloc (.cells #[.pointer (some ⟨p, 0, none⟩)] 23)) 35 #[.func (.func 34) #[] #[.pointer (some ⟨w1.heap.size + 1, 0, none⟩)]]; rw [s1, s1] at h; exact h
  have hB2 : Below w.heap.size w W2 := (HB0.out.trans (hb1.mono HB0.out.size)).trans (hb2.mono (HB0.out.trans (hb1.mono HB0.out.size)).size)
  have HB2 := Lib.hid hB2
  have h02 : Below W0.heap.size W0 W2 := hb1.trans (hb2.mono hb1.size)
  have u0 := HX0.out.below h02 HX0.out.lt
  have u1 := HX1.out.below h02 HX1.out.lt
  have u2 := HX2.out.below h02 HX2.out.lt
  have l0 : W2.cell? ⟨g, 0, none⟩ = some (.slice AA acts.length ac) := u0.cell 0
  have l1 : W2.cell? ⟨g + 1, 0, none⟩ = some (.int .i64 stop) := u1.cell 0
  have l9 : W2.cell? ⟨gx + 1 + 1, 0, none⟩ = some (.func (.func 34) #[] #[.pointer (some ⟨gx + 1, 0, none⟩)]) := d2.cell 0
  have HU0 := Lib.hid u0
  have HU1 := Lib.hid u1
  have HU2 := Lib.hid u2
  have HD0 := Lib.hid d0
  have HD1 := Lib.hid d1
  have HD2 := Lib.hid d2
  have HC2 := Lib.hid (hC1.below hb2)
  have HR2 := Lib.hid (rowR_below hR1 hb2)
  have HM := Lib.hid hM1
  have HLn := Lib.hid hLn
  have HFresh := Lib.hid hF1
  have HGX : Hid (W0.heap.size ≤ gx) := hgx ▸ hb1.size
  clear hb1 hb2 hB2 h02 u0 u1 u2 d0 d1 d2 hC1 hR1 hM1 hLn hF1 HX0 HX1 HX2
  gi_wp2_with (first | (refine ⟨trivial, ?_⟩; gi_at_call 13; refine (callsIn_wide.2 (all_calls p _)).mono ?_; rintro e w' ⟨rfl, rfl⟩) | fail)
  refine ⟨trivial, ?_⟩
  gi_at_call 53
  refine (callsIn_wide.2 (walk_calls L HC2.out.up (.slice RA L.length rc) acts AA ac w.heap.size stop W2 HR2.out (HA.out.below HB2.out) HB2.out.size (by have := HL.out; have := HLn.out; omega))).mono ?_
  rintro e w3 ⟨hb3, K, ov, rv3, rfl, hO3, hV3, hk3, hend, hnot⟩
  obtain ⟨Out, hOut⟩ : ∃ x, (wkAt L acts K).1 = x := ⟨_, rfl⟩
  obtain ⟨Beh, hBeh⟩ : ∃ x, (wkAt L acts K).2 = x := ⟨_, rfl⟩
  rw [hOut] at hO3 hk3
  rw [hBeh] at hV3
  obtain ⟨OA, oc, rfl⟩ := own_slice hO3
  obtain ⟨VA, vc, rfl⟩ := own_slice hV3
  obtain ⟨gw, hgw⟩ : ∃ gw, w3.heap.size = gw := ⟨_, rfl⟩
  have HK3 := Lib.hid hk3
  clear l0 l1 l9 hk3
  obtain ⟨W4, hW4⟩ : ∃ X, ((w3.alloc (.cells #[.slice OA Out.length oc] 46)).alloc (.cells #[.slice VA Beh.length vc] 46)).alloc (.cells #[.slice none 0 0] 46) = X := ⟨_, rfl⟩
  have hb4 : Below w3.heap.size w3 W4 := hW4 ▸ (((Below.refl _ _).alloc (Nat.le_refl _) _).alloc (by simp) _).alloc (by simp; omega) _
  have d0 : Blk W4 gw 46 #[.slice OA Out.length oc] := by
    rw [← hW4, ← hgw]; exact ((Blk.new w3 _ _).alloc _).alloc _
  have d1 : Blk W4 (gw + 1) 46 #[.slice VA Beh.length vc] := by
    rw [← hW4, ← hgw]; have h := Blk.new (w3.alloc (.cells #[.slice OA Out.length oc] 46)) 46 #[.slice VA Beh.length vc]; rw [s1] at h; exact h.alloc _
  have d2 : Blk W4 (gw + 1 + 1) 46 #[.slice none 0 0] := by
    rw [← hW4, ← hgw]; have h := Blk.new ((w3.alloc (.cells #[.slice OA Out.length oc] 46)).alloc (.cells #[.slice VA Beh.length vc] 46)) 46 #[.slice none 0 0]; rw [s1, s1] at h; exact h
  have h24 : Below W2.heap.size W2 W4 := hb3.trans (hb4.mono hb3.size)
  have hs4 : W4.heap.size = gw + 3 := by rw [← hW4]; simp [s1, hgw]
  have HB4 := Lib.hid (HB2.out.trans (h24.mono HB2.out.size))
  have HE0 := Lib.hid (HU0.out.below h24 HU0.out.lt)
  have HE1 := Lib.hid (HU1.out.below h24 HU1.out.lt)
  have HE2 := Lib.hid (HU2.out.below h24 HU2.out.lt)
  have HE7 := Lib.hid (HD0.out.below h24 HD0.out.lt)
  have HE8 := Lib.hid (HD1.out.below h24 HD1.out.lt)
  have HE9 := Lib.hid (HD2.out.below h24 HD2.out.lt)
  have HEA := Lib.hid d0
  have HEB := Lib.hid d1
  have HEC := Lib.hid d2
  have HC4 := Lib.hid (HC2.out.below h24)
  have HO4 := Lib.hid (rowR_below hO3 hb4)
  have HV4 := Lib.hid (rowR_below hV3 hb4)
  have HGW : Hid (W2.heap.size ≤ gw) := hgw ▸ hb3.size
  have HOut := Lib.hid hOut
  have HBeh := Lib.hid hBeh
  have HEND := Lib.hid hend
  have HNOT := Lib.hid hnot
  have HS4 := Lib.hid hs4
  have l9 : W4.cell? ⟨gx + 1 + 1, 0, none⟩ = some (.func (.func 34) #[] #[.pointer (some ⟨gx + 1, 0, none⟩)]) := HE9.out.cell 0
  clear hb3 hb4 h24 d0 d1 d2 hO3 hV3 hOut hBeh hend hnot hs4 HU0 HU1 HU2 HD0 HD1 HD2 HR2
  gi_wp2_with (fail)
  refine range_now (F := Fence.wide) rfl (by omega) (gf := 34) (lb := #[.pointer (some ⟨gx + 1, 0, none⟩)]) rfl trivial (enters_of Tryd.func34 (by kernel_rfl) rfl)
    (all_now 5 (by omega) (gx + 1) p W4 HE8.out ⟨_, L, HC4.out, HM.out⟩) KeepC.trans (fun W l o o' _ hl ho _ => KeepC.put hl ho o') (fun pre x W l o o' _ hl ho h => h.put hl ho o') (fun xs W l o o' _ hl ho h => h.put hl ho o') (Below.refl _ _) (fun _ => rfl)
    (fun pre W => ∃ sv ov, WkS L acts stop W4 p cv (gw + 1 + 1) pre W sv ov ∧ (0 < pre.length → (pre.length : Int) ≠ stop))
    (fun c pre W => c = .exit 0 ∧ wkEnd L acts stop pre.length = true ∧ ∃ sv ov, WkS L acts stop W4 p cv (gw + 1 + 1) pre W sv ov)
    (fun pre X Y row ⟨sv, ov, h, h0⟩ hg hr => ⟨sv, ov, h.kept hg hr, h0⟩) (fun c pre X Y row ⟨h0, h1, sv, ov, h⟩ hg hr => ⟨h0, h1, sv, ov, h.kept hg hr⟩)
    ⟨_, _, ⟨HC4.out, fun i hi => .inl hi, HEC.out, World.ownsRow_nil _ _ _ _, rfl, fun j hj => by simp at hj, But.refl _ _⟩, fun h => by simp at h⟩
    (fun x => { tmps := #[.slice PA puts.length pc, .slice AA acts.length ac, .int .i64 stop, undef, .pointer (some ⟨g, 0, none⟩), .pointer (some ⟨g + 1, 0, none⟩), .pointer (some ⟨g + 1 + 1, 0, none⟩), .pointer (some ⟨gx, 0, none⟩), .slice RA L.length rc, .pointer (some ⟨gx + 1 + 1, 0, none⟩), .pointer (some ⟨gw, 0, none⟩), .pointer (some ⟨gw + 1, 0, none⟩), .pointer (some ⟨gw + 1 + 1, 0, none⟩), .int .i64 x.n, .string x.v, undef, undef, undef, undef, .tuple #[.pointer (some ⟨p, 0, none⟩), .slice RA L.length rc], .slice PA puts.length pc, .tuple #[.pointer (some ⟨p, 0, none⟩), .slice RA L.length rc], .pointer (some ⟨p, 0, none⟩), .slice RA L.length rc, .pointer (some ⟨p, 0, none⟩), .bool false, .pointer (some ⟨p, 0, none⟩), .func (.func 34) #[] #[.pointer (some ⟨gx + 1, 0, none⟩)], .func (.func 34) #[] #[.pointer (some ⟨gx + 1, 0, none⟩)], .bool false, .tuple #[.slice OA Out.length oc, .slice VA Beh.length vc], .slice RA L.length rc, .slice AA acts.length ac, .int .i64 stop, .tuple #[.slice OA Out.length oc, .slice VA Beh.length vc], .slice OA Out.length oc, .slice VA Beh.length vc, .func (.func 34) #[] #[.pointer (some ⟨gx + 1, 0, none⟩)], .int .i64 x.n, .string x.v, undef, undef, undef, undef, undef, undef, undef, undef, undef, undef, undef, undef, undef, undef, undef, undef, undef, undef, undef, undef, undef, undef, undef, undef, undef, undef, undef, undef, undef, undef, undef, undef, undef, undef, undef, undef, undef, undef, undef, undef, undef, undef, undef, undef, undef, undef, undef, undef, undef, undef, undef, undef, undef, undef, undef, undef, undef, undef, undef, undef, undef, undef, undef, undef, undef, undef, undef, undef, undef, undef, undef, undef, undef, undef, undef], defers := [] }) ?assign ?body ?done ?stop
  case assign =>
    intro l x W K hK
    gi_wp2
    exact hK
  case body =>
    rintro l pre x W ⟨sv, ov, hs, hne⟩ ⟨sv', L', hC', hM', hx⟩
    obtain ⟨rfl, rfl⟩ := hs.chn.uniq hC'
    obtain ⟨GA, gc, rfl⟩ := own_slice hs.row
    have hfs := hs.fst
    have hlt : leN (wkAt L acts pre.length).2 (lastNo (wkAt L acts pre.length).1) < (wkAt L acts pre.length).2.length := by rw [hfs]; exact (List.getElem?_eq_some_iff.1 hx).1
    have hke : wkEnd L acts stop pre.length = false := by
      unfold wkEnd
      have h1 : decide (leN (wkAt L acts pre.length).2 (lastNo (wkAt L acts pre.length).1) = (wkAt L acts pre.length).2.length) = false := decide_eq_false (by omega)
      rw [h1]
      simp
      intro h2
      exact hne (by simpa using h2)
    have hkK : pre.length < K := by
      rcases Nat.lt_or_ge pre.length K with h1 | h1
      · exact h1
      · rcases Nat.lt_or_ge K pre.length with h2 | h2
        · have := hs.not K (by omega); rw [HEND.out] at this; cases this
        · have h3 : pre.length = K := by omega
          have h4 := HEND.out
          rw [← h3, hke] at h4; cases h4
    have hwl := wk_len (L := L) (acts := acts) pre.length
    obtain ⟨M, hMe⟩ : ∃ M, (wkAt L acts pre.length).2 = M := ⟨_, rfl⟩
    have hst := wk_step hfs hMe rfl (hMe ▸ hx)
    rw [hMe] at hC' hM' hwl
    have hlen := HL.out
    have hln := HLn.out
    have hq4 := HEC.out.lt
    have n0 := hs.old HC4.out HE0.out (HE0.out.ne_ HEC.out (by decide)) (by decide) (by decide)
    have n1 := hs.old HC4.out HE1.out (HE1.out.ne_ HEC.out (by decide)) (by decide) (by decide)
    have n7 := hs.old HC4.out HE7.out (HE7.out.ne_ HEC.out (by decide)) (by decide) (by decide)
    have nA := hs.old HC4.out HEA.out (by omega) (by decide) (by decide)
    have y0 : W.cell? ⟨g, 0, none⟩ = some (.slice AA acts.length ac) := n0.cell 0
    have y1 : W.cell? ⟨g + 1, 0, none⟩ = some (.int .i64 stop) := n1.cell 0
    have y7 : W.cell? ⟨gx, 0, none⟩ = some (.pointer (some ⟨p, 0, none⟩)) := n7.cell 0
    have yA : W.cell? ⟨gw, 0, none⟩ = some (.slice OA Out.length oc) := nA.cell 0
    have yC : W.cell? ⟨gw + 1 + 1, 0, none⟩ = some (.slice GA pre.length gc) := hs.box.cell 0
    have hgt : ¬ ((Out.length : Int) < (pre.length : Int) + 1) := by have := HK3.out; omega
    have hgw4 : gw + 3 = W4.heap.size := HS4.out.symm
    have hWs : W4.heap.size ≤ W.heap.size := hs.but.size
    have HS := Lib.hid hs
    have HST := Lib.hid hst
    have HKE := Lib.hid hke
    have HCK := Lib.hid hC'
    have HMK := Lib.hid hM'
    have HGW4 := Lib.hid hgw4
    have HWS := Lib.hid hWs
    have HHL := Lib.hid (by omega : M.length < 9382499223000)
    have hlb : pre.length < 9382499223000 := by
      have h1 := (wk_bound HC2.out.up (acts := acts) pre.length (fun j hj => (wk_go (hs.not j hj)).1)).2
      have h2 := leN_le (wkAt L acts pre.length).2 (lastNo (wkAt L acts pre.length).1)
      rw [hMe] at h1 h2
      omega
    clear n0 n1 n7 nA hs hst hke hC' hM' hgw4 hWs hq4 hfs hlt hMe hwl hx hne
    by_cases hA : pre.length < acts.length
    · have hai : (pre.length : Int) < (acts.length : Int) := by omega
      obtain ⟨ad, rfl, hadb, a0, a1, a2⟩ := acts_at (reads_but (HA.out.below HB4.out) HB4.out.size HS.out.but (by
        rintro i (rfl | hi)
        · have := HB4.out.size; have := HGW4.out; have := HEC.out.lt; have h3 := HGW.out; have h4 := HB2.out.size; omega
        · exact Nat.le_trans HB0.out.size (HFresh.out i hi))) hA
      have HST2 := Lib.hid (show (wkAt L acts (pre.length + 1)).2 = doneL M acts[pre.length] by rw [HST.out.2, List.getElem?_eq_getElem hA])
      generalize acts[pre.length] = act at a0 a1 a2 HST2
      gi_wp2_with (fail)
      refine round_tail 6 (fun ⟨_, _, h⟩ => h) (by kernel_rfl) (by kernel_rfl) (by kernel_rfl) ?_
      simp only [List.take_succ_cons, List.take_zero, List.drop_succ_cons, List.drop_zero]
      repeat still_step
      refine wpStill_nil ?_
      obtain ⟨WD, hWD⟩ : ∃ X, W.drew = X := ⟨_, rfl⟩
      have HCD := Lib.hid (hWD ▸ HCK.out.below (Below.refl W.heap.size W).drew)
      have HBD := Lib.hid (hWD ▸ (But.of_below (Below.refl W.heap.size W).drew (OfC p sv)))
      rw [hWD]
      clear hWD y0 y1 y7 yA yC
      go_wp2_with (fail)
      refine (act_calls act WD HCD.out HHL.out).mono ?_
      rintro e w5 ⟨sv5, rfl, hC5, hb5, hs5⟩
      have HC5 := Lib.hid hC5
      have HB5 := Lib.hid (HBD.out.trans hb5 (fun _ _ h => h))
      have HS5 := Lib.hid (fun b hb => (hs5 b hb).imp id (fun h => Nat.le_trans HBD.out.size h))
      clear hC5 hb5 hs5 a0 a1 a2
      apply_assumption
      gi_wp2_with (fail)
      apply_assumption
      have hrow5 : w5.ownsRow W4.heap.size 72 2 (.slice GA pre.length gc) pre.length (versC pre) := own_but HS.out.row HB5.out (chn_row_ne HS.out.chn (own_base0 HS.out.row))
      have HR5 := Lib.hid hrow5
      have hbx5 : Blk w5 (gw + 1 + 1) 46 #[.slice GA pre.length gc] := HS.out.box.but HB5.out (of_blk_ne HS.out.box HS.out.chn (by decide) (by decide))
      have yC : w5.cell? ⟨gw + 1 + 1, 0, none⟩ = some (.slice GA pre.length gc) := hbx5.cell 0
      have HS45 : Hid (W4.heap.size ≤ w5.heap.size) := Nat.le_trans HWS.out HB5.out.size
      clear hrow5 hbx5
      by_cases hS : ((pre.length : Int) + 1) = stop
      · have hSb : decide (((pre.length : Int) + 1) = stop) = true := by simpa using hS
        have hw5 : IntKind.i64.wrap ((pre.length : Int) + 1) = (pre.length : Int) + 1 := IntWalk.i64_in _ (by omega)
        have hcast : (((pre.length + 1 : Nat)) : Int) = (pre.length : Int) + 1 := by omega
        have hse : decide (((pre.length + 1 : Nat) : Int) = stop) = true := decide_eq_true (by omega)
        have HSS : Hid (wkEnd L acts stop (pre.length + 1) = true) := Lib.hid (by unfold wkEnd; rw [hse]; simp)
        clear hse
        gi_wp2_with (first | (gi_at_builtin; (refine wpListIn_append_wide _ rfl (.tmp 52) (.tmp 56) 46 rfl W4.heap.size 72 i0 _ 2 24 Tryd.underlying46 hi0 hz0 hz1 hz2 rfl (by decide) _ pre.length (versC pre) rfl (HR5.out.alloc _) ⟨w5.heap.size, 0, none⟩ 1 1 [.int .i64 x.n, .string x.v] rfl rfl ?_ ?_ ?_ ?_ ?_ ?_; exact new_cells w5 72 [.int .i64 x.n, .string x.v]; (simp [Value.oneCell']); (unfold maxLen; omega); (omega); (have := HS45.out; simp; omega); intro v1 w6 hown6 hg6 _; obtain ⟨BA, bc, rfl⟩ := own_slice hown6; obtain ⟨W7, hW7⟩ : ∃ X, w6.setCell ⟨gw + 1 + 1, 0, none⟩ (.slice BA (pre.length + 1) bc) = X := ⟨_, rfl⟩; have hnx := HS.out.next HC4.out HEC.out.lt HC5.out HB5.out HS5.out hg6 hown6 HST.out.1 HST2.out HKE.out; rw [hW7] at hnx; have c12 : w6.cell? ⟨gw + 1 + 1, 0, none⟩ = some (.slice GA pre.length gc) := hnx.2.2.cell 0; have z12 : w6.frozen? ⟨gw + 1 + 1, 0, none⟩ = false := hnx.2.2.frozen 0; have m1 := hnx.1.old HC4.out HE1.out (HE1.out.ne_ HEC.out (by decide)) (by decide) (by decide); have mA := hnx.1.old HC4.out HEA.out (by omega) (by decide) (by decide); have q1 : W7.cell? ⟨g + 1, 0, none⟩ = some (.int .i64 stop) := m1.cell 0; have qA : W7.cell? ⟨gw, 0, none⟩ = some (.slice OA Out.length oc) := mA.cell 0; have qC : W7.cell? ⟨gw + 1 + 1, 0, none⟩ = some (.slice BA (pre.length + 1) bc) := hnx.1.box.cell 0; have m8 := hnx.1.old HC4.out HE8.out (HE8.out.ne_ HEC.out (by decide)) (by decide) (by decide); have HN := Lib.hid hnx.1; have HNK := Lib.hid hnx.2.1; have HM8 := Lib.hid m8; clear hnx m1 mA m8 yC hown6 hg6)))
        exact ⟨HNK.out, rfl, by rw [List.length_append]; exact HSS.out, _, _, HN.out⟩
      · have hSn : ¬ (((pre.length + 1 : Nat)) : Int) = stop := by omega
        have HSN := Lib.hid hSn
        have hSn2 : ¬ ((pre.length : Int) + 1) = stop := hS
        gi_wp2_with (first | (gi_at_builtin; (refine wpListIn_append_wide _ rfl (.tmp 52) (.tmp 56) 46 rfl W4.heap.size 72 i0 _ 2 24 Tryd.underlying46 hi0 hz0 hz1 hz2 rfl (by decide) _ pre.length (versC pre) rfl (HR5.out.alloc _) ⟨w5.heap.size, 0, none⟩ 1 1 [.int .i64 x.n, .string x.v] rfl rfl ?_ ?_ ?_ ?_ ?_ ?_; exact new_cells w5 72 [.int .i64 x.n, .string x.v]; (simp [Value.oneCell']); (unfold maxLen; omega); (omega); (have := HS45.out; simp; omega); intro v1 w6 hown6 hg6 _; obtain ⟨BA, bc, rfl⟩ := own_slice hown6; obtain ⟨W7, hW7⟩ : ∃ X, w6.setCell ⟨gw + 1 + 1, 0, none⟩ (.slice BA (pre.length + 1) bc) = X := ⟨_, rfl⟩; have hnx := HS.out.next HC4.out HEC.out.lt HC5.out HB5.out HS5.out hg6 hown6 HST.out.1 HST2.out HKE.out; rw [hW7] at hnx; have c12 : w6.cell? ⟨gw + 1 + 1, 0, none⟩ = some (.slice GA pre.length gc) := hnx.2.2.cell 0; have z12 : w6.frozen? ⟨gw + 1 + 1, 0, none⟩ = false := hnx.2.2.frozen 0; have m1 := hnx.1.old HC4.out HE1.out (HE1.out.ne_ HEC.out (by decide)) (by decide) (by decide); have mA := hnx.1.old HC4.out HEA.out (by omega) (by decide) (by decide); have q1 : W7.cell? ⟨g + 1, 0, none⟩ = some (.int .i64 stop) := m1.cell 0; have qA : W7.cell? ⟨gw, 0, none⟩ = some (.slice OA Out.length oc) := mA.cell 0; have qC : W7.cell? ⟨gw + 1 + 1, 0, none⟩ = some (.slice BA (pre.length + 1) bc) := hnx.1.box.cell 0; have m8 := hnx.1.old HC4.out HE8.out (HE8.out.ne_ HEC.out (by decide)) (by decide) (by decide); have HN := Lib.hid hnx.1; have HNK := Lib.hid hnx.2.1; have HM8 := Lib.hid m8; clear hnx m1 mA m8 yC hown6 hg6)))
        all_goals first
          | exact ⟨HNK.out, ⟨fun _ => HM8.out, fun _ => ⟨_, _, HN.out.chn, wk_max HM.out _⟩⟩, _, _, HN.out, fun _ h => HSN.out (by simpa using h)⟩
          | exact ⟨HNK.out, ⟨fun _ => HM8.out, fun _ => ⟨_, _, HN.out.chn, wk_max HM.out _⟩⟩, ⟨_, _, HN.out⟩, fun _ h => HSN.out (by simpa using h)⟩
          | (exfalso; rename_i h; rcases h with h | h <;> first | omega | (simp at h; omega) | simp at h)
    · have hai : (acts.length : Int) ≤ (pre.length : Int) := by omega
      have HST2 := Lib.hid (show (wkAt L acts (pre.length + 1)).2 = M by rw [HST.out.2, List.getElem?_eq_none (by omega)])
      have HC5 := Lib.hid HCK.out
      have HB5 := Lib.hid (But.refl W (OfC p sv))
      have HS5 : Hid (∀ b, sv.ownBlock = some b → sv.ownBlock = some b ∨ W.heap.size ≤ b) := fun b hb => .inl hb
      have hrow5 : W.ownsRow W4.heap.size 72 2 (.slice GA pre.length gc) pre.length (versC pre) := own_but HS.out.row HB5.out (chn_row_ne HS.out.chn (own_base0 HS.out.row))
      have HR5 := Lib.hid hrow5
      have hbx5 : Blk W (gw + 1 + 1) 46 #[.slice GA pre.length gc] := HS.out.box.but HB5.out (of_blk_ne HS.out.box HS.out.chn (by decide) (by decide))
      have yC : W.cell? ⟨gw + 1 + 1, 0, none⟩ = some (.slice GA pre.length gc) := hbx5.cell 0
      have HS45 : Hid (W4.heap.size ≤ W.heap.size) := Nat.le_trans HWS.out HB5.out.size
      clear hrow5 hbx5
      by_cases hS : ((pre.length : Int) + 1) = stop
      · have hSb : decide (((pre.length : Int) + 1) = stop) = true := by simpa using hS
        have hw5 : IntKind.i64.wrap ((pre.length : Int) + 1) = (pre.length : Int) + 1 := IntWalk.i64_in _ (by omega)
        have hcast : (((pre.length + 1 : Nat)) : Int) = (pre.length : Int) + 1 := by omega
        have hse : decide (((pre.length + 1 : Nat) : Int) = stop) = true := decide_eq_true (by omega)
        have HSS : Hid (wkEnd L acts stop (pre.length + 1) = true) := Lib.hid (by unfold wkEnd; rw [hse]; simp)
        clear hse
        gi_wp2_with (first | (gi_at_builtin; (refine wpListIn_append_wide _ rfl (.tmp 52) (.tmp 56) 46 rfl W4.heap.size 72 i0 _ 2 24 Tryd.underlying46 hi0 hz0 hz1 hz2 rfl (by decide) _ pre.length (versC pre) rfl (HR5.out.alloc _) ⟨W.heap.size, 0, none⟩ 1 1 [.int .i64 x.n, .string x.v] rfl rfl ?_ ?_ ?_ ?_ ?_ ?_; exact new_cells W 72 [.int .i64 x.n, .string x.v]; (simp [Value.oneCell']); (unfold maxLen; omega); (omega); (have := HS45.out; simp; omega); intro v1 w6 hown6 hg6 _; obtain ⟨BA, bc, rfl⟩ := own_slice hown6; obtain ⟨W7, hW7⟩ : ∃ X, w6.setCell ⟨gw + 1 + 1, 0, none⟩ (.slice BA (pre.length + 1) bc) = X := ⟨_, rfl⟩; have hnx := HS.out.next HC4.out HEC.out.lt HC5.out HB5.out HS5.out hg6 hown6 HST.out.1 HST2.out HKE.out; rw [hW7] at hnx; have c12 : w6.cell? ⟨gw + 1 + 1, 0, none⟩ = some (.slice GA pre.length gc) := hnx.2.2.cell 0; have z12 : w6.frozen? ⟨gw + 1 + 1, 0, none⟩ = false := hnx.2.2.frozen 0; have m1 := hnx.1.old HC4.out HE1.out (HE1.out.ne_ HEC.out (by decide)) (by decide) (by decide); have mA := hnx.1.old HC4.out HEA.out (by omega) (by decide) (by decide); have q1 : W7.cell? ⟨g + 1, 0, none⟩ = some (.int .i64 stop) := m1.cell 0; have qA : W7.cell? ⟨gw, 0, none⟩ = some (.slice OA Out.length oc) := mA.cell 0; have qC : W7.cell? ⟨gw + 1 + 1, 0, none⟩ = some (.slice BA (pre.length + 1) bc) := hnx.1.box.cell 0; have m8 := hnx.1.old HC4.out HE8.out (HE8.out.ne_ HEC.out (by decide)) (by decide) (by decide); have HN := Lib.hid hnx.1; have HNK := Lib.hid hnx.2.1; have HM8 := Lib.hid m8; clear hnx m1 mA m8 yC hown6 hg6)))
        exact ⟨HNK.out, rfl, by rw [List.length_append]; exact HSS.out, _, _, HN.out⟩
      · have hSn : ¬ (((pre.length + 1 : Nat)) : Int) = stop := by omega
        have HSN := Lib.hid hSn
        have hSn2 : ¬ ((pre.length : Int) + 1) = stop := hS
        gi_wp2_with (first | (gi_at_builtin; (refine wpListIn_append_wide _ rfl (.tmp 52) (.tmp 56) 46 rfl W4.heap.size 72 i0 _ 2 24 Tryd.underlying46 hi0 hz0 hz1 hz2 rfl (by decide) _ pre.length (versC pre) rfl (HR5.out.alloc _) ⟨W.heap.size, 0, none⟩ 1 1 [.int .i64 x.n, .string x.v] rfl rfl ?_ ?_ ?_ ?_ ?_ ?_; exact new_cells W 72 [.int .i64 x.n, .string x.v]; (simp [Value.oneCell']); (unfold maxLen; omega); (omega); (have := HS45.out; simp; omega); intro v1 w6 hown6 hg6 _; obtain ⟨BA, bc, rfl⟩ := own_slice hown6; obtain ⟨W7, hW7⟩ : ∃ X, w6.setCell ⟨gw + 1 + 1, 0, none⟩ (.slice BA (pre.length + 1) bc) = X := ⟨_, rfl⟩; have hnx := HS.out.next HC4.out HEC.out.lt HC5.out HB5.out HS5.out hg6 hown6 HST.out.1 HST2.out HKE.out; rw [hW7] at hnx; have c12 : w6.cell? ⟨gw + 1 + 1, 0, none⟩ = some (.slice GA pre.length gc) := hnx.2.2.cell 0; have z12 : w6.frozen? ⟨gw + 1 + 1, 0, none⟩ = false := hnx.2.2.frozen 0; have m1 := hnx.1.old HC4.out HE1.out (HE1.out.ne_ HEC.out (by decide)) (by decide) (by decide); have mA := hnx.1.old HC4.out HEA.out (by omega) (by decide) (by decide); have q1 : W7.cell? ⟨g + 1, 0, none⟩ = some (.int .i64 stop) := m1.cell 0; have qA : W7.cell? ⟨gw, 0, none⟩ = some (.slice OA Out.length oc) := mA.cell 0; have qC : W7.cell? ⟨gw + 1 + 1, 0, none⟩ = some (.slice BA (pre.length + 1) bc) := hnx.1.box.cell 0; have m8 := hnx.1.old HC4.out HE8.out (HE8.out.ne_ HEC.out (by decide)) (by decide) (by decide); have HN := Lib.hid hnx.1; have HNK := Lib.hid hnx.2.1; have HM8 := Lib.hid m8; clear hnx m1 mA m8 yC hown6 hg6)))
        all_goals first
          | exact ⟨HNK.out, ⟨fun _ => HM8.out, fun _ => ⟨_, _, HN.out.chn, wk_max HM.out _⟩⟩, _, _, HN.out, fun _ h => HSN.out (by simpa using h)⟩
          | exact ⟨HNK.out, ⟨fun _ => HM8.out, fun _ => ⟨_, _, HN.out.chn, wk_max HM.out _⟩⟩, ⟨_, _, HN.out⟩, fun _ h => HSN.out (by simpa using h)⟩
          | (exfalso; rename_i h; rcases h with h | h <;> first | omega | (simp at h; omega) | simp at h)
  case' done =>
    rintro D ys W hD ⟨sv', L', hC', hM', he⟩ ⟨sv, ov, hs, hne⟩ hK
    obtain ⟨rfl, rfl⟩ := hs.chn.uniq hC'
    have hend : wkEnd L acts stop ys.length = true := by unfold wkEnd; rw [hs.fst, he]; simp
    clear hC' hM' he hne
    have hkk : ys.length = K := first_uniq hend hs.not HEND.out HNOT.out
    have hpo : Out = ys := by rw [← hs.fst, hkk]; exact HOut.out.symm
    have hob : ys.length ≤ 9382499222999 := by
      have h1 := (wk_bound HC2.out.up (acts := acts) ys.length (fun j hj => (wk_go (hs.not j hj)).1)).2
      have h2 := leN_le (wkAt L acts ys.length).2 (lastNo (wkAt L acts ys.length).1)
      have h3 := (wk_len (L := L) (acts := acts) ys.length).1
      have h4 := HL.out
      have h5 := HLn.out
      omega
    have hc9 : Chn W p sv Beh := by have := hs.chn; rw [hkk, HBeh.out] at this; exact this
    subst hpo
    have hAf : Aft g gx gw p OA oc VA vc Out Beh sv ov W := ⟨hs.old HC4.out HE2.out (HE2.out.ne_ HEC.out (by decide)) (by decide) (by decide), hs.old HC4.out HE7.out (HE7.out.ne_ HEC.out (by decide)) (by decide) (by decide), hs.old HC4.out HE8.out (HE8.out.ne_ HEC.out (by decide)) (by decide) (by decide), hs.old HC4.out HE9.out (HE9.out.ne_ HEC.out (by decide)) (by decide) (by decide), hs.old HC4.out HEA.out (by omega) (by decide) (by decide), hs.old HC4.out HEB.out (by omega) (by decide) (by decide), hs.box, hc9,
      own_but HO4.out hs.but (fun b hb => fun hh => hh.elim (fun e => own_blk_ne HO4.out HEC.out (by decide) (e ▸ hb)) (chn_row_ne HC4.out HO4.out b hb)),
      own_but HV4.out hs.but (fun b hb => fun hh => hh.elim (fun e => own_blk_ne HV4.out HEC.out (by decide) (e ▸ hb)) (chn_row_ne HC4.out HV4.out b hb)), own_base0 hs.row⟩
    obtain ⟨GA, gc, rfl⟩ := own_slice hs.row
    have hbw : Below w.heap.size w W := HB4.out.trans (hs.but.to_below (by
      rintro i (rfl | hi)
      · have := HEC.out.lt; have h3 := HGW.out; have h4 := HB2.out.size; omega
      · exact Nat.le_trans HB0.out.size (HFresh.out i hi)) HB4.out.size)
    have HAf := Lib.hid hAf
    have HOB := Lib.hid hob
    have HBW := Lib.hid hbw
    have HK := Lib.hid hK
    have HD := Lib.hid hD
    clear hs hob hc9 hkk hend hbw hAf hK hD HEND HNOT HOut HBeh HS4 HE0 HE1 HE2 HE7 HE8 HE9 HEA HEB HEC HO4 HV4 HC4
  case' stop =>
    rintro D c pre W hD ⟨rfl, hend, sv, ov, hs⟩ hK
    have hkk : pre.length = K := first_uniq hend hs.not HEND.out HNOT.out
    have hpo : Out = pre := by rw [← hs.fst, hkk]; exact HOut.out.symm
    have hob : pre.length ≤ 9382499222999 := by
      have h1 := (wk_bound HC2.out.up (acts := acts) pre.length (fun j hj => (wk_go (hs.not j hj)).1)).2
      have h2 := leN_le (wkAt L acts pre.length).2 (lastNo (wkAt L acts pre.length).1)
      have h3 := (wk_len (L := L) (acts := acts) pre.length).1
      have h4 := HL.out
      have h5 := HLn.out
      omega
    have hc9 : Chn W p sv Beh := by have := hs.chn; rw [hkk, HBeh.out] at this; exact this
    subst hpo
    have hAf : Aft g gx gw p OA oc VA vc Out Beh sv ov W := ⟨hs.old HC4.out HE2.out (HE2.out.ne_ HEC.out (by decide)) (by decide) (by decide), hs.old HC4.out HE7.out (HE7.out.ne_ HEC.out (by decide)) (by decide) (by decide), hs.old HC4.out HE8.out (HE8.out.ne_ HEC.out (by decide)) (by decide) (by decide), hs.old HC4.out HE9.out (HE9.out.ne_ HEC.out (by decide)) (by decide) (by decide), hs.old HC4.out HEA.out (by omega) (by decide) (by decide), hs.old HC4.out HEB.out (by omega) (by decide) (by decide), hs.box, hc9,
      own_but HO4.out hs.but (fun b hb => fun hh => hh.elim (fun e => own_blk_ne HO4.out HEC.out (by decide) (e ▸ hb)) (chn_row_ne HC4.out HO4.out b hb)),
      own_but HV4.out hs.but (fun b hb => fun hh => hh.elim (fun e => own_blk_ne HV4.out HEC.out (by decide) (e ▸ hb)) (chn_row_ne HC4.out HV4.out b hb)), own_base0 hs.row⟩
    obtain ⟨GA, gc, rfl⟩ := own_slice hs.row
    have hbw : Below w.heap.size w W := HB4.out.trans (hs.but.to_below (by
      rintro i (rfl | hi)
      · have := HEC.out.lt; have h3 := HGW.out; have h4 := HB2.out.size; omega
      · exact Nat.le_trans HB0.out.size (HFresh.out i hi)) HB4.out.size)
    have HAf := Lib.hid hAf
    have HOB := Lib.hid hob
    have HBW := Lib.hid hbw
    have HK := Lib.hid hK
    have HD := Lib.hid hD
    clear hs hob hc9 hkk hend hbw hAf hK hD HEND HNOT HOut HBeh HS4 HE0 HE1 HE2 HE7 HE8 HE9 HEA HEB HEC HO4 HV4 HC4
  all_goals
    obtain ⟨WD, hWD⟩ : ∃ X, W.drew = X := ⟨_, rfl⟩
    have HAD := Lib.hid (hWD ▸ HAf.out.below (Below.refl W.heap.size W).drew)
    have HBD := Lib.hid (hWD ▸ HBW.out.drew)
    have HWD := Lib.hid hWD
    have HKD : Hid (WD.heap[D]? = some (.deferred (some []))) := hWD ▸ HK.out
    have y7 : W.cell? ⟨gx, 0, none⟩ = some (.pointer (some ⟨p, 0, none⟩)) := HAf.out.x.cell 0
    have yA : W.cell? ⟨gw, 0, none⟩ = some (.slice OA Out.length oc) := HAf.out.wa.cell 0
    have yB : W.cell? ⟨gw + 1, 0, none⟩ = some (.slice VA Beh.length vc) := HAf.out.be.cell 0
    have yC : W.cell? ⟨gw + 1 + 1, 0, none⟩ = some (.slice GA Out.length gc) := HAf.out.go.cell 0
    clear hWD
    gi_wp2_with (fail)
    refine wpIn_wide.2 ?_
    go_region_held3 (fun w' => w'.cell? ⟨gx, 0, none⟩ = some (.pointer (some ⟨p, 0, none⟩)) ∧ w'.cell? ⟨gw, 0, none⟩ = some (.slice OA Out.length oc) ∧ w'.cell? ⟨gw + 1, 0, none⟩ = some (.slice VA Beh.length vc) ∧ w'.cell? ⟨gw + 1 + 1, 0, none⟩ = some (.slice GA Out.length gc)) (first | go_keep | fail)
      (first
        | (go_at_call 27; rw [HWD.out]; refine (sameV_calls Out Out GA OA gc oc WD (Reads.of_own HAD.out.rg) (Reads.of_own HAD.out.ro) (by have := HOB.out; omega)).mono ?_; rintro e wa ⟨rfl, hba⟩; rw [decV]; have HA3 := Lib.hid (HAD.out.below hba); have HB3 := Lib.hid (HBD.out.trans (hba.mono HBD.out.size)); have HK3 : Hid (wa.heap[D]? = some (.deferred (some []))) := (hba.block D (Array.getElem?_eq_some_iff.1 HKD.out).1).trans HKD.out; have a7wa : wa.cell? ⟨gx, 0, none⟩ = some (.pointer (some ⟨p, 0, none⟩)) := HA3.out.x.cell 0; have aAwa : wa.cell? ⟨gw, 0, none⟩ = some (.slice OA Out.length oc) := HA3.out.wa.cell 0; have aBwa : wa.cell? ⟨gw + 1, 0, none⟩ = some (.slice VA Beh.length vc) := HA3.out.be.cell 0; have aCwa : wa.cell? ⟨gw + 1 + 1, 0, none⟩ = some (.slice GA Out.length gc) := HA3.out.go.cell 0; clear hba HWD)
        | (go_at_call 28; refine (allV_calls (Beh.length : Int) wa HA3.out.c (Int.le_refl _)).mono ?_; rintro e wb ⟨v3, rfl, hr4, hb4⟩; obtain ⟨XA, xc, rfl⟩ := own_slice hr4; have HA4 := Lib.hid (HA3.out.below hb4); have HR4 := Lib.hid hr4; have HB5 := Lib.hid (HB3.out.trans (hb4.mono HB3.out.size)); have HK4 : Hid (wb.heap[D]? = some (.deferred (some []))) := (hb4.block D (Array.getElem?_eq_some_iff.1 HK3.out).1).trans HK3.out; have a7wb : wb.cell? ⟨gx, 0, none⟩ = some (.pointer (some ⟨p, 0, none⟩)) := HA4.out.x.cell 0; have aAwb : wb.cell? ⟨gw, 0, none⟩ = some (.slice OA Out.length oc) := HA4.out.wa.cell 0; have aBwb : wb.cell? ⟨gw + 1, 0, none⟩ = some (.slice VA Beh.length vc) := HA4.out.be.cell 0; have aCwb : wb.cell? ⟨gw + 1 + 1, 0, none⟩ = some (.slice GA Out.length gc) := HA4.out.go.cell 0; clear hr4 hb4 HK3)
        | (go_at_call 27; refine (sameV_calls Beh Beh XA VA xc vc wb (Reads.of_own HR4.out) (Reads.of_own HA4.out.rb) HA4.out.c.len).mono ?_; rintro e wc ⟨rfl, hb5⟩; rw [decV]; have HA5 := Lib.hid (HA4.out.below hb5); have HB6 := Lib.hid (HB5.out.trans (hb5.mono HB5.out.size)); have HK5 : Hid (wc.heap[D]? = some (.deferred (some []))) := (hb5.block D (Array.getElem?_eq_some_iff.1 HK4.out).1).trans HK4.out; have a7wc : wc.cell? ⟨gx, 0, none⟩ = some (.pointer (some ⟨p, 0, none⟩)) := HA5.out.x.cell 0; have aAwc : wc.cell? ⟨gw, 0, none⟩ = some (.slice OA Out.length oc) := HA5.out.wa.cell 0; have aBwc : wc.cell? ⟨gw + 1, 0, none⟩ = some (.slice VA Beh.length vc) := HA5.out.be.cell 0; have aCwc : wc.cell? ⟨gw + 1 + 1, 0, none⟩ = some (.slice GA Out.length gc) := HA5.out.go.cell 0; clear hb5 HR4 HK4))
    clear y7 yA yB yC a7wa aAwa aBwa aCwa a7wb aAwb aBwb aCwb a7wc aAwc aBwc aCwc HAD HBD HKD HA3 HB3 HA4 HB5 HAf HBW
    obtain ⟨gq, hgq⟩ : ∃ q, wc.heap.size = q := ⟨_, rfl⟩
    obtain ⟨W6, hW6⟩ : ∃ X, wc.alloc (.cells #[.slice none 0 0] 46) = X := ⟨_, rfl⟩
    have hb6 : Below wc.heap.size wc W6 := hW6 ▸ (Below.refl _ _).alloc (Nat.le_refl _) _
    have d6 : Blk W6 gq 46 #[.slice none 0 0] := by rw [← hW6, ← hgq]; exact Blk.new _ _ _
    have hs6 : W6.heap.size = gq + 1 := by rw [← hW6, ← hgq]; simp
    have HA6 := Lib.hid (HA5.out.below hb6)
    have HB7 := Lib.hid (HB6.out.trans (hb6.mono HB6.out.size))
    have HB56 := Lib.hid hb6
    have HD6 := Lib.hid d6
    have HS6 := Lib.hid hs6
    have HK6 : Hid (W6.heap[D]? = some (.deferred (some []))) := (hb6.block D (Array.getElem?_eq_some_iff.1 HK5.out).1).trans HK5.out
    have l9 : W6.cell? ⟨gx + 1 + 1, 0, none⟩ = some (.func (.func 34) #[] #[.pointer (some ⟨gx + 1, 0, none⟩)]) := HA6.out.wk.cell 0
    clear hb6 d6 hs6
    gi_wp2_with (fail)
    refine wpIn_rangeFunc_ownH (F := Fence.wide) rfl (by omega) (gf := 34) (lb := #[.pointer (some ⟨gx + 1, 0, none⟩)]) rfl trivial (enters_of Tryd.func34 (by kernel_rfl) rfl)
      (all_stops 5 (by omega) (gx + 1) p sv Beh W6 HA6.out.bx HA6.out.c) KeepK.trans (KeepK.put HA6.out.walk_lt) (Below.refl _ _) (fun _ => rfl)
      (fun pre W => (∃ qv, Blk W gq 46 #[qv] ∧ W.ownsRow (gq + 1) 72 2 qv pre.length (versC pre)) ∧ Below wc.heap.size wc W)
      (fun _ _ _ => False)
      (OwnFrom.and (Own.from (fun s A B row hs hg hr => by obtain ⟨qv, h1, h2⟩ := hs; exact ⟨qv, blk_kept h1 hg hr, own_kept2 h2 hg hr⟩) _) (ownFrom_below (Nat.le_refl _) HB56.out.size))
      (fun _ _ _ _ _ hs _ _ => hs) ⟨⟨_, HD6.out, World.ownsRow_nil _ _ _ _⟩, HB56.out⟩
      (fun x a' _ => a' = { tmps := #[.slice PA puts.length pc, .slice AA acts.length ac, .int .i64 stop, undef, .pointer (some ⟨g, 0, none⟩), .pointer (some ⟨g + 1, 0, none⟩), .pointer (some ⟨g + 1 + 1, 0, none⟩), .pointer (some ⟨gx, 0, none⟩), .slice RA L.length rc, .pointer (some ⟨gx + 1 + 1, 0, none⟩), .pointer (some ⟨gw, 0, none⟩), .pointer (some ⟨gw + 1, 0, none⟩), .pointer (some ⟨gw + 1 + 1, 0, none⟩), undef, undef, .pointer (some ⟨gq, 0, none⟩), .int .i64 x.n, .string x.v, undef, .tuple #[.pointer (some ⟨p, 0, none⟩), .slice RA L.length rc], .slice PA puts.length pc, .tuple #[.pointer (some ⟨p, 0, none⟩), .slice RA L.length rc], .pointer (some ⟨p, 0, none⟩), .slice RA L.length rc, .pointer (some ⟨p, 0, none⟩), .bool false, .pointer (some ⟨p, 0, none⟩), .func (.func 34) #[] #[.pointer (some ⟨gx + 1, 0, none⟩)], .func (.func 34) #[] #[.pointer (some ⟨gx + 1, 0, none⟩)], .bool false, .tuple #[.slice OA Out.length oc, .slice VA Beh.length vc], .slice RA L.length rc, .slice AA acts.length ac, .int .i64 stop, .tuple #[.slice OA Out.length oc, .slice VA Beh.length vc], .slice OA Out.length oc, .slice VA Beh.length vc, .func (.func 34) #[] #[.pointer (some ⟨gx + 1, 0, none⟩)], undef, undef, undef, undef, undef, undef, undef, undef, undef, undef, undef, undef, undef, undef, undef, undef, undef, undef, undef, undef, undef, undef, undef, undef, undef, undef, undef, undef, undef, undef, undef, .slice GA Out.length gc, .slice OA Out.length oc, .bool true, .bool false, .bool false, .pointer (some ⟨p, 0, none⟩), .slice VA Beh.length vc, .int .i64 Beh.length, .slice XA Beh.length xc, .slice VA Beh.length vc, .bool true, .bool false, .bool false, .func (.func 34) #[] #[.pointer (some ⟨gx + 1, 0, none⟩)], .int .i64 x.n, .string x.v, undef, undef, undef, undef, undef, undef, undef, undef, undef, undef, undef, undef, undef, undef, undef, undef, undef, undef, undef, undef, undef, undef, undef, undef, undef, undef, undef, undef, undef, undef], defers := [] }) (fun _ _ _ _ _ _ hs _ _ => hs) ?_ ?_ ?_ ?_
    · intro l pre x W K hi hK
      gi_wp2
      exact hK _ _ (KeepsFrom.refl _ _) (KeepK.refl _ _) hi rfl
    rotate_left
    · rintro D2 xs W hD2 rfl ⟨⟨qv, c0, hown⟩, hB⟩ hK2
      obtain ⟨QA, qc, rfl⟩ := own_slice hown
      have hA9 := HA5.out.below hB
      have yQ : W.cell? ⟨gq, 0, none⟩ = some (.slice QA xs.length qc) := c0.cell 0
      have yB : W.cell? ⟨gw + 1, 0, none⟩ = some (.slice VA xs.length vc) := hA9.be.cell 0
      have hKD : W.heap[D]? = some (.deferred (some [])) := (hB.block D (Array.getElem?_eq_some_iff.1 HK5.out).1).trans HK5.out
      have hne2 : D ≠ D2 := by have := (Array.getElem?_eq_some_iff.1 HK5.out).1; have := HB56.out.size; omega
      have HA9 := Lib.hid hA9
      have HRQ : Hid (RowR W (.slice QA xs.length qc) xs) := own_base0 hown
      have HBB := Lib.hid (HB6.out.trans (hB.mono HB6.out.size))
      have HKD := Lib.hid hKD
      have HK2 := Lib.hid hK2
      have HNE := Lib.hid hne2
      have hg0 := hg
      clear c0 hown hA9 hB hKD hK2 hne2
      gi_wp2_with (first | (refine ⟨trivial, ?_⟩; gi_at_call 27; refine (callsIn_wide.2 (sameV_calls xs xs QA VA qc vc W (Reads.of_own HRQ.out) (Reads.of_own HA9.out.rb) HA9.out.c.len)).mono ?_; rintro e wf ⟨rfl, hbf⟩; rw [decV]; have hAf := HA9.out.below hbf; have r0 : wf.cell? ⟨g + 1 + 1, 0, none⟩ = some (.bool false) := hAf.rs.cell 0; have r1 : wf.frozen? ⟨g + 1 + 1, 0, none⟩ = false := hAf.rs.frozen 0; have HBF := Lib.hid (HBB.out.trans (hbf.mono HBB.out.size)); have HRS := Lib.hid hAf.rs; have HKF : Hid (wf.heap[D]? = some (.deferred (some []))) := (hbf.block D (Array.getElem?_eq_some_iff.1 HKD.out).1).trans HKD.out; have HK2F : Hid (wf.heap[D2]? = some (.deferred (some []))) := (hbf.block D2 (Array.getElem?_eq_some_iff.1 HK2.out).1).trans HK2.out; clear hAf hbf))
      obtain ⟨WF, hWF⟩ : ∃ X, wf.setCell ⟨g + 1 + 1, 0, none⟩ (.bool true) = X := ⟨_, rfl⟩
      rw [hWF]
      have hbF : Below w.heap.size w WF := hWF ▸ HBF.out.setCell (p := ⟨g + 1 + 1, 0, none⟩) (by show w.heap.size ≤ g + 1 + 1; omega) _
      have hRF : Blk WF (g + 1 + 1) 4 #[.bool true] := hWF ▸ HRS.out.set_ 0 _
      have hd1 : WF.heap[D]? = some (.deferred (some [])) := hWF ▸ (KeepsOthers.setCell wf ⟨g + 1 + 1, 0, none⟩ (.bool true)).same D _ HKF.out rfl
      have hd2 : WF.heap[D2]? = some (.deferred (some [])) := hWF ▸ (KeepsOthers.setCell wf ⟨g + 1 + 1, 0, none⟩ (.bool true)).same D2 _ HK2F.out rfl
      have hd3 : (WF.putObj D2 (.deferred none)).heap[D]? = some (.deferred (some [])) := (World.putObj_heap_other HNE.out).trans hd1
      have hwD : w.heap.size ≤ D := Nat.le_trans HB4.out.size HD.out
      have hwD2 : w.heap.size ≤ D2 := Nat.le_trans HB7.out.size hD2
      have hb1 := hbF.trans (belowK_b (w := w) (Nat.le_refl _) WF D2 (.deferred (some [])) (.deferred none) hwD2 hd2 rfl rfl)
      have hb2 := hb1.trans (belowK_b (w := w) (Nat.le_refl _) _ D (.deferred (some [])) (.deferred none) hwD hd3 rfl rfl)
      have hr1 := blk_put (blk_put hRF hd2 rfl (.deferred none)) hd3 rfl (.deferred none)
      refine ⟨by simp, .inl ⟨_, _, rfl, run_takeDeferred hd2, ?_⟩⟩
      refine ⟨by simp, .inl ⟨_, _, rfl, run_takeDeferred hd3, ?_⟩⟩
      have e0 : ((WF.putObj D2 (.deferred none)).putObj D (.deferred none)).cell? ⟨g + 1 + 1, 0, none⟩ = some (.bool true) := hr1.cell 0
      refine ⟨.bool true, ?_, rfl, hb2⟩
      simp [results, Tryd.f32, go_sem, e0]
    · rintro D c pre W _ _ h _
      exact h.elim
    · rintro l pre x a' W hl ⟨r, hr⟩ ⟨⟨qv, c0, hown⟩, hB⟩ rfl hlen
      obtain ⟨QA, qc, rfl⟩ := own_slice hown
      have hgc : gq < W.heap.size := c0.lt
      have yQ : W.cell? ⟨gq, 0, none⟩ = some (.slice QA pre.length qc) := c0.cell 0
      have hlb : pre.length < 9382499223000 := by have := HA5.out.c.len; omega
      have hlt2 : ¬ ((Beh.length : Int) < (pre.length : Int) + 1) := by omega
      have C0 := Lib.hid c0
      have HO := Lib.hid hown
      have HBB := Lib.hid hB
      have HR := Lib.hid hr
      have HLL := Lib.hid hl
      have HGQ : Hid (wc.heap.size ≤ gq) := Nat.le_of_eq hgq
      clear c0 hown hB hr hl
      by_cases h20 : (20 : Int) < (pre.length : Int) + 1
      · gi_wp2_with (first | (gi_at_builtin; refine wpListIn_append_wide _ rfl (.tmp 85) (.tmp 89) 46 rfl (gq + 1) 72 i0 _ 2 24 Tryd.underlying46 hi0 hz0 hz1 hz2 rfl (by decide) _ pre.length (versC pre) rfl (HO.out.alloc _) ⟨W.heap.size, 0, none⟩ 1 1 [.int .i64 x.n, .string x.v] rfl rfl ?_ ?_ ?_ ?_ ?_ ?_; exact new_cells W 72 [.int .i64 x.n, .string x.v]; (simp [Value.oneCell']); (unfold maxLen; omega); (omega); (first | omega | (simp; done) | (simp; omega)); (intro v1 w7 hown7 hg7 _; obtain ⟨BA, bc, rfl⟩ := own_slice hown7; obtain ⟨W8, hW8⟩ : ∃ X, w7.setCell ⟨gq, 0, none⟩ (.slice BA (pre.length + 1) bc) = X := ⟨_, rfl⟩; have hnx := again_next C0.out HO.out HBB.out HGQ.out hg7 hown7; rw [hW8] at hnx; obtain ⟨h7, hb8, hr8, hbut8, hB8⟩ := hnx; have c12 : w7.cell? ⟨gq, 0, none⟩ = some (.slice QA pre.length qc) := h7.cell 0; have z12 : w7.frozen? ⟨gq, 0, none⟩ = false := h7.frozen 0; have HA8 := Lib.hid (HA5.out.below hB8); have q1 : W8.cell? ⟨gq, 0, none⟩ = some (.slice BA (pre.length + 1) bc) := hb8.cell 0; have q2 : W8.cell? ⟨gw + 1, 0, none⟩ = some (.slice VA Beh.length vc) := HA8.out.be.cell 0; have HBK8 := Lib.hid hb8; have HRW8 := Lib.hid hr8; have HBT8 := Lib.hid hbut8; have HBB8 := Lib.hid hB8; clear h7 hb8 hr8 hbut8 hB8 yQ hown7 hg7)))
        exact ⟨again_keeps C0.out HO.out HBT8.out, keepK_two HBB.out HBB8.out HBT8.out.size HA5.out.walk_lt, ⟨_, HBK8.out, by rw [versC_snoc, List.length_append]; exact HRW8.out⟩, (by first | exact HBB8.out | (rw [← hgq]; exact HBB8.out))⟩
      · gi_wp2_with (first | (gi_at_builtin; refine wpListIn_append_wide _ rfl (.tmp 85) (.tmp 89) 46 rfl (gq + 1) 72 i0 _ 2 24 Tryd.underlying46 hi0 hz0 hz1 hz2 rfl (by decide) _ pre.length (versC pre) rfl (HO.out.alloc _) ⟨W.heap.size, 0, none⟩ 1 1 [.int .i64 x.n, .string x.v] rfl rfl ?_ ?_ ?_ ?_ ?_ ?_; exact new_cells W 72 [.int .i64 x.n, .string x.v]; (simp [Value.oneCell']); (unfold maxLen; omega); (omega); (first | omega | (simp; done) | (simp; omega)); (intro v1 w7 hown7 hg7 _; obtain ⟨BA, bc, rfl⟩ := own_slice hown7; obtain ⟨W8, hW8⟩ : ∃ X, w7.setCell ⟨gq, 0, none⟩ (.slice BA (pre.length + 1) bc) = X := ⟨_, rfl⟩; have hnx := again_next C0.out HO.out HBB.out HGQ.out hg7 hown7; rw [hW8] at hnx; obtain ⟨h7, hb8, hr8, hbut8, hB8⟩ := hnx; have c12 : w7.cell? ⟨gq, 0, none⟩ = some (.slice QA pre.length qc) := h7.cell 0; have z12 : w7.frozen? ⟨gq, 0, none⟩ = false := h7.frozen 0; have HA8 := Lib.hid (HA5.out.below hB8); have q1 : W8.cell? ⟨gq, 0, none⟩ = some (.slice BA (pre.length + 1) bc) := hb8.cell 0; have q2 : W8.cell? ⟨gw + 1, 0, none⟩ = some (.slice VA Beh.length vc) := HA8.out.be.cell 0; have HBK8 := Lib.hid hb8; have HRW8 := Lib.hid hr8; have HBT8 := Lib.hid hbut8; have HBB8 := Lib.hid hB8; clear h7 hb8 hr8 hbut8 hB8 yQ hown7 hg7; obtain ⟨gc0, hgc0⟩ : ∃ q, W8.heap.size = q := ⟨_, rfl⟩; obtain ⟨W9, hW9⟩ : ∃ X, W8.alloc (.cells #[.int .i64 0] 3) = X := ⟨_, rfl⟩; have hb9 : Below W8.heap.size W8 W9 := hW9 ▸ (Below.refl _ _).alloc (Nat.le_refl _) _; have k9 : Blk W9 gc0 3 #[.int .i64 0] := (by first | (rw [← hW9, ← hgc0]; exact Blk.new _ _ _) | (rw [← hW9, ← hgc0])); have c9 : W9.cell? ⟨gc0, 0, none⟩ = some (.int .i64 0) := k9.cell 0; have f9 : W9.frozen? ⟨gc0, 0, none⟩ = false := k9.frozen 0; have s9 := setCell_self k9; have hA9 := HA8.out.below hb9; have l9 : W9.cell? ⟨gx + 1 + 1, 0, none⟩ = some (.func (.func 34) #[] #[.pointer (some ⟨gx + 1, 0, none⟩)]) := hA9.wk.cell 0; have hr9 := (hb9.block l (Array.getElem?_eq_some_iff.1 (again_loop C0.out HO.out HBT8.out HR.out)).1).trans (again_loop C0.out HO.out HBT8.out HR.out); have HA9 := Lib.hid hA9; have HK9 := Lib.hid k9; have HR9 := Lib.hid hr9; have HB9 := Lib.hid hb9; have HGC : Hid (W8.heap.size = gc0) := hgc0; clear hb9 k9 hA9 hr9)))
        refine wpIn_rangeFunc_ownN (F := Fence.wide.inRound l) (l₀ := l) (r₀ := r) rfl HR9.out (by omega) (gf := 34) (lb := #[.pointer (some ⟨gx + 1, 0, none⟩)]) rfl trivial (enters_of Tryd.func34 (by kernel_rfl) rfl)
          (SeqStopsK.inRound l (all_stops 3 (by omega) (gx + 1) p sv Beh W9 HA9.out.bx HA9.out.c)) KeepK.trans (KeepK.put HA9.out.walk_lt) (Below.refl _ _) (fun _ => rfl)
          (fun pre W => Blk W gc0 3 #[.int .i64 pre.length] ∧ But W9 W (fun i => i = gc0)) (fun _ _ _ => False)
          (fun s A B row hs hg hr => ⟨blk_kept hs.1 hg (fun r e => (hr r e).2), hs.2.grown hg (fun i hi e => by have := (hr i e).1; omega)⟩)
          (fun _ _ _ _ _ hs _ _ => hs) ⟨HK9.out, But.refl _ _⟩ (fun (y : VerS) a' _ => a' = { tmps := #[.slice PA puts.length pc, .slice AA acts.length ac, .int .i64 stop, undef, .pointer (some ⟨g, 0, none⟩), .pointer (some ⟨g + 1, 0, none⟩), .pointer (some ⟨g + 1 + 1, 0, none⟩), .pointer (some ⟨gx, 0, none⟩), .slice RA L.length rc, .pointer (some ⟨gx + 1 + 1, 0, none⟩), .pointer (some ⟨gw, 0, none⟩), .pointer (some ⟨gw + 1, 0, none⟩), .pointer (some ⟨gw + 1 + 1, 0, none⟩), undef, undef, .pointer (some ⟨gq, 0, none⟩), .int .i64 x.n, .string x.v, .pointer (some ⟨gc0, 0, none⟩), .tuple #[.pointer (some ⟨p, 0, none⟩), .slice RA L.length rc], .slice PA puts.length pc, .tuple #[.pointer (some ⟨p, 0, none⟩), .slice RA L.length rc], .pointer (some ⟨p, 0, none⟩), .slice RA L.length rc, .pointer (some ⟨p, 0, none⟩), .bool false, .pointer (some ⟨p, 0, none⟩), .func (.func 34) #[] #[.pointer (some ⟨gx + 1, 0, none⟩)], .func (.func 34) #[] #[.pointer (some ⟨gx + 1, 0, none⟩)], .bool false, .tuple #[.slice OA Out.length oc, .slice VA Beh.length vc], .slice RA L.length rc, .slice AA acts.length ac, .int .i64 stop, .tuple #[.slice OA Out.length oc, .slice VA Beh.length vc], .slice OA Out.length oc, .slice VA Beh.length vc, .func (.func 34) #[] #[.pointer (some ⟨gx + 1, 0, none⟩)], undef, undef, undef, undef, undef, undef, undef, undef, undef, undef, undef, undef, undef, undef, undef, undef, undef, undef, undef, undef, undef, undef, undef, undef, undef, undef, undef, undef, undef, undef, undef, .slice GA Out.length gc, .slice OA Out.length oc, .bool true, .bool false, .bool false, .pointer (some ⟨p, 0, none⟩), .slice VA Beh.length vc, .int .i64 Beh.length, .slice XA Beh.length xc, .slice VA Beh.length vc, .bool true, .bool false, .bool false, .func (.func 34) #[] #[.pointer (some ⟨gx + 1, 0, none⟩)], .int .i64 x.n, .string x.v, .slice QA pre.length qc, .int .i64 x.n, .string x.v, .agg #[.int .i64 x.n, .string x.v], .slice (some ⟨W.heap.size, 0, none⟩) 1 1, .slice BA (pre.length + 1) bc, .slice BA (pre.length + 1) bc, .int .i64 ((pre.length : Int) + 1), .slice VA Beh.length vc, .int .i64 Beh.length, .bool false, .slice BA (pre.length + 1) bc, .int .i64 ((pre.length : Int) + 1), .bool false, .func (.func 34) #[] #[.pointer (some ⟨gx + 1, 0, none⟩)], .int .i64 y.n, .string y.v, undef, undef, undef, undef, undef, undef, undef, undef, undef, undef, undef, undef, undef], defers := [] }) (fun _ _ _ _ _ _ hs _ _ => hs) ?_ ?_ ?_ ?_
        · intro l' pre' y W' K hi hK
          gi_wp2
          exact hK _ _ (KeepsFrom.refl _ _) (KeepK.refl _ _) hi rfl
        · rintro l' pre' y a' W' hl' _ ⟨cc, hbt⟩ rfl hlen'
          have z0 : W'.cell? ⟨gc0, 0, none⟩ = some (.int .i64 pre'.length) := cc.cell 0
          have z1 : W'.frozen? ⟨gc0, 0, none⟩ = false := cc.frozen 0
          have hlb' : pre'.length < 9382499223000 := by have := HA5.out.c.len; omega
          have hwr : IntKind.i64.wrap ((pre'.length : Int) + 1) = (pre'.length : Int) + 1 := IntWalk.i64_in _ (by omega)
          have hlt3 : ¬ ((Beh.length : Int) < (pre'.length : Int) + 1) := by omega
          obtain ⟨Wz, hWz⟩ : ∃ X, W'.setCell ⟨gc0, 0, none⟩ (.int .i64 ((pre'.length : Int) + 1)) = X := ⟨_, rfl⟩
          have hgw9 : gw + 1 < gc0 := by have := HA8.out.be.lt; have := HGC.out; omega
          have kz : Blk Wz gc0 3 #[.int .i64 ((pre'.length : Int) + 1)] := hWz ▸ cc.set_ 0 _
          have bz : But W9 Wz (fun i => i = gc0) := hWz ▸ hbt.setCell (fun _ => rfl) _
          have hkf : KeepsFrom W9.heap.size W' Wz := hWz ▸ (KeepsOthers.setCell _ _ _).from _
          have hkk : KeepK (WalkK (gx + 1) p sv) W' Wz := hWz ▸ (KeepK.refl _ _).setCell (fun h => by have := HA8.out.walk_lt _ h; have h2 := HGC.out; simp only at this; omega) _
          have c1 : Wz.cell? ⟨gc0, 0, none⟩ = some (.int .i64 ((pre'.length : Int) + 1)) := kz.cell 0
          have c2 : Wz.cell? ⟨gw + 1, 0, none⟩ = some (.slice VA Beh.length vc) := (HA9.out.be.but bz (by omega)).cell 0
          have HKZ := Lib.hid kz
          have HBZ := Lib.hid bz
          have HKF := Lib.hid hkf
          have HKK := Lib.hid hkk
          clear cc hbt kz bz hkf hkk
          gi_wp2
          exact ⟨HKF.out, HKK.out, by rw [List.length_append]; exact HKZ.out, HBZ.out⟩
        · rintro xs W' rfl ⟨cc, hbt⟩
          have z0 : W'.cell? ⟨gc0, 0, none⟩ = some (.int .i64 xs.length) := cc.cell 0
          have hgw9 : gw + 1 < gc0 := by have := HA8.out.be.lt; have := HGC.out; omega
          have z1 : W'.cell? ⟨gw + 1, 0, none⟩ = some (.slice VA xs.length vc) := (HA9.out.be.but hbt (by omega)).cell 0
          have hfin := again_fin HBT8.out HBB8.out HBK8.out HRW8.out HB9.out HGC.out hbt
          have HFIN := Lib.hid hfin
          clear cc hbt hfin
          gi_wp2
          exact ⟨again_keeps C0.out HO.out HFIN.out.1, keepK_two HBB.out HFIN.out.2.1 HFIN.out.1.size HA5.out.walk_lt, ⟨_, HFIN.out.2.2.1, by rw [versC_snoc, List.length_append]; exact HFIN.out.2.2.2⟩, (by first | exact HFIN.out.2.1 | (rw [← hgq]; exact HFIN.out.2.1))⟩
        · rintro c pre' W' _ h
          exact h.elim
end Go.Proofs.YtmljiegeingpeaaDoor
