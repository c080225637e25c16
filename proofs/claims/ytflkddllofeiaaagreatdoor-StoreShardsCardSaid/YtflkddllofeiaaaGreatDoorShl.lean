/- StoreShards: its walk (printed by gen_shl11.py). -/
import Derived.Test.YtflkddllofeiaaaGreatDoorNum
import Derived.Test.YtflkddllofeiaaaGreatDoorGiv
import Derived.Test.YtflkddllofeiaaaGreatDoorS6
import Derived.Deep.RegionHeld3
namespace Go.Proofs.YtflkddllofeiaaaGreatDoor
open Go.RowKit Go.MapKept Go.ChangeMaps Go.Maps
set_option linter.unusedVariables false
set_option linter.unusedSimpArgs false

theorem NI.StAt.lt_of {w : World} {u : NI.StV} (h : NI.StAt w u) {i : Nat} (hi : u.of i) : i < w.heap.size := h.lt hi
/-- Three stores in one memory: two of texts, one of numbers, that hold the same rows. -/
structure T3 (w0 w : World) (n : Nat) (s t : StV) (u : NI.StV) (A : AbS) : Prop where
  sa : StAt w s
  ta : StAt w t
  ua : NI.StAt w u
  ss : Sim s A
  ts : Sim t A
  us : SimI u A
  bnd : BndA A n
  st : ∀ i, s.of i → ¬ t.of i
  su : ∀ i, s.of i → ¬ u.of i
  tu : ∀ i, t.of i → ¬ u.of i
  ls : ∀ i, s.of i → w0.heap.size ≤ i
  lt : ∀ i, t.of i → w0.heap.size ≤ i
  lu : ∀ i, u.of i → w0.heap.size ≤ i
  bel : Below w0.heap.size w0 w
theorem BndA.up {A : AbS} {n m : Nat} (h : BndA A n) (hm : n ≤ m) : BndA A m := ⟨Nat.le_trans h.t hm, Nat.le_trans h.r hm, Nat.le_trans h.b hm, h.nd⟩
section
variable {w0 w w1 w2 w' : World} {n : Nat} {s t s' t' : StV} {u u' : NI.StV} {A : AbS}
theorem T3.below (h : T3 w0 w n s t u A) (hb : Below w.heap.size w w') : T3 w0 w' n s t u A :=
  ⟨h.sa.below hb, h.ta.below hb, h.ua.below hb, h.ss, h.ts, h.us, h.bnd, h.st, h.su, h.tu, h.ls, h.lt, h.lu, below_after h.bel hb⟩
theorem T3.up (h : T3 w0 w n s t u A) : T3 w0 w (n + 1) s t u A :=
  ⟨h.sa, h.ta, h.ua, h.ss, h.ts, h.us, h.bnd.up (Nat.le_succ _), h.st, h.su, h.tu, h.ls, h.lt, h.lu, h.bel⟩
theorem T3.step {c : CallV} (h : T3 w0 w n s t u A) (hb : Below w.heap.size w w1) (hs : AskS w1 w2 s s' (stepA A c)) {wx : World} (hbx : Below w2.heap.size w2 wx) {wy : World} (ht : AskS wx wy t t' (stepA A c)) {wz : World} (hu : NumS wy wz u u' (stepA A c)) : T3 w0 wz (n + 1) s' t' u' (stepA A c) := by
  have h1 := h.below hb
  have lts : ∀ i, t.of i → i < w1.heap.size := fun i hi => h1.ta.lt hi
  have lus : ∀ i, u.of i → i < w1.heap.size := fun i hi => h1.ua.lt hi
  have k2 := hs.but.size
  have kx := hbx.size
  have ky := ht.but.size
  have n1 : ∀ i, s'.of i → s.of i ∨ w1.heap.size ≤ i := hs.new
  have l1 : ∀ i, s'.of i → i < w2.heap.size := fun i hi => hs.at_.lt hi
  have n2 : ∀ i, t'.of i → t.of i ∨ wx.heap.size ≤ i := ht.new
  have l2 : ∀ i, t'.of i → i < wy.heap.size := fun i hi => ht.at_.lt hi
  have n3 : ∀ i, u'.of i → u.of i ∨ wy.heap.size ≤ i := hu.new
  have d1 : ∀ i, s'.of i → ¬ t.of i := fun i hi hti => (n1 i hi).elim (fun h2 => h1.st i h2 hti) (fun h2 => by have := lts i hti; omega)
  have d2 : ∀ i, s'.of i → ¬ u.of i := fun i hi hti => (n1 i hi).elim (fun h2 => h1.su i h2 hti) (fun h2 => by have := lus i hti; omega)
  have d3 : ∀ i, s'.of i → ¬ t'.of i := fun i hi hti => (n2 i hti).elim (fun h2 => d1 i hi h2) (fun h2 => by have := l1 i hi; omega)
  have d4 : ∀ i, t'.of i → ¬ u.of i := fun i hi hti => (n2 i hi).elim (fun h2 => h1.tu i h2 hti) (fun h2 => by have := lus i hti; omega)
  have d5 : ∀ i, s'.of i → ¬ u'.of i := fun i hi hti => (n3 i hti).elim (fun h2 => d2 i hi h2) (fun h2 => by have := l1 i hi; omega)
  have d6 : ∀ i, t'.of i → ¬ u'.of i := fun i hi hti => (n3 i hti).elim (fun h2 => d4 i hi h2) (fun h2 => by have := l2 i hi; omega)
  have b0 := h1.bel.size
  have hsx := (hs.at_.below hbx).but ht.but (fun i hi hti => d1 i hi hti)
  refine ⟨hsx.but hu.but (fun i hi hti => d2 i hi hti), ht.at_.but hu.but (fun i hi hti => d4 i hi hti), hu.at_, hs.sim, ht.sim, hu.sim, h.bnd.step c, d3, d5, d6,
    fun i hi => (n1 i hi).elim (h1.ls i) (fun h2 => by omega), fun i hi => (n2 i hi).elim (h1.lt i) (fun h2 => by omega), fun i hi => (n3 i hi).elim (h1.lu i) (fun h2 => by omega), ?_⟩
  have g1 : Below w0.heap.size w0 w2 := h1.bel.trans (hs.but.to_below h1.ls h1.bel.size)
  have g2 : Below w0.heap.size w0 wy := (below_after g1 hbx).trans (ht.but.to_below h1.lt (Nat.le_trans g1.size hbx.size))
  exact g2.trans (hu.but.to_below h1.lu g2.size)
theorem T3.keysS (h : T3 w0 w n s t u A) (hn : n ≤ 3000000000000) : Calls Tryz.prog 12 #[.pointer (some ⟨s.p, 0, none⟩)] w (GivesK w (srtK (A.rows.map (·.1)))) := by
  have hl : s.chs.length ≤ n := by
    have h1 := h.ss.rows.length_eq
    have h2 := h.bnd.r
    rw [← h1] at h2
    unfold StV.rows at h2
    simpa using h2
  refine (keysS_calls s w h.sa (by omega)).mono ?_
  rintro e w' ⟨v, l, rfl, ho, hp, hu, hb⟩
  have e1 : l = srtK (A.rows.map (·.1)) := sorted_eq (hp.trans ((h.ss.rows.map _).trans (srtK_perm _).symm)) hu (srtK_up h.bnd.nd)
  subst e1
  obtain ⟨B, c, rfl⟩ := own_slice ho
  exact ⟨B, c, rfl, ho, hb⟩
theorem T3.keysT (h : T3 w0 w n s t u A) (hn : n ≤ 3000000000000) : Calls Tryz.prog 12 #[.pointer (some ⟨t.p, 0, none⟩)] w (GivesK w (srtK (A.rows.map (·.1)))) := by
  have hl : t.chs.length ≤ n := by
    have h1 := h.ts.rows.length_eq
    have h2 := h.bnd.r
    rw [← h1] at h2
    unfold StV.rows at h2
    simpa using h2
  refine (keysS_calls t w h.ta (by omega)).mono ?_
  rintro e w' ⟨v, l, rfl, ho, hp, hu, hb⟩
  have e1 : l = srtK (A.rows.map (·.1)) := sorted_eq (hp.trans ((h.ts.rows.map _).trans (srtK_perm _).symm)) hu (srtK_up h.bnd.nd)
  subst e1
  obtain ⟨B, c, rfl⟩ := own_slice ho
  exact ⟨B, c, rfl, ho, hb⟩
theorem T3.keysU (h : T3 w0 w n s t u A) (hn : n ≤ 3000000000000) : Calls Tryz.prog 22 #[.pointer (some ⟨u.p, 0, none⟩)] w (GivesK w (srtK (A.rows.map (·.1)))) := by
  have hl : u.chs.length ≤ n := by
    have h1 := h.us.rows.length_eq
    have h2 := h.bnd.r
    rw [List.length_map] at h1
    rw [← h1] at h2
    unfold NI.StV.rows at h2
    simpa using h2
  refine (NI.keysS_calls u w h.ua (by omega)).mono ?_
  rintro e w' ⟨v, l, rfl, ho, hp, hu, hb⟩
  have e1 : l = srtK (A.rows.map (·.1)) := sorted_eq (hp.trans (h.us.keys.trans (srtK_perm _).symm)) hu (srtK_up h.bnd.nd)
  subst e1
  obtain ⟨B, c, rfl⟩ := own_slice ho
  exact ⟨B, c, rfl, ho, hb⟩
theorem T3.kn (h : T3 w0 w n s t u A) : (srtK (A.rows.map (·.1))).length ≤ n := by rw [srtK_len, List.length_map]; exact h.bnd.r
theorem T3.versS (h : T3 w0 w n s t u A) (hn : n ≤ 3000000000000) : Calls Tryz.prog 16 #[.pointer (some ⟨s.p, 0, none⟩)] w fun e w' => e = .returned (.int .i64 (total A.rows)) ∧ Below w.heap.size w w' := by
  have ht : Go.Proofs.YtflkddllofeiaaaGreatDoor.lens s.chs = total A.rows := by rw [lens_rows, total_perm h.ss.rows]
  rw [← ht]
  exact versionsS_calls s w h.sa (by rw [ht]; have := h.bnd.t; omega)
theorem T3.versU (h : T3 w0 w n s t u A) (hn : n ≤ 3000000000000) : Calls Tryz.prog 24 #[.pointer (some ⟨u.p, 0, none⟩)] w fun e w' => e = .returned (.int .i64 (total A.rows)) ∧ Below w.heap.size w w' := by
  rw [← h.us.total]
  exact NI.versionsS_calls u w h.ua (by rw [h.us.total]; have := h.bnd.t; omega)
theorem ansA_ns {c : CallV} (h3 : c.kind ≠ 3) (h08 : 0 ≤ c.kind ∧ c.kind ≤ 8) (a b : Nat) : ansA A a c = ansA A b c := by
  unfold ansA
  by_cases h0 : c.kind = 0
  · rw [if_pos h0, if_pos h0]
  by_cases h1 : c.kind = 1
  · rw [if_neg h0, if_neg h0, if_pos h1, if_pos h1]
  by_cases h2 : c.kind = 2
  · rw [if_neg h0, if_neg h0, if_neg h1, if_neg h1, if_pos h2, if_pos h2]
  by_cases h4 : c.kind = 4
  · rw [if_neg h0, if_neg h0, if_neg h1, if_neg h1, if_neg h2, if_neg h2, if_pos h4, if_pos h4]
  by_cases h5 : c.kind = 5
  · rw [if_neg h0, if_neg h0, if_neg h1, if_neg h1, if_neg h2, if_neg h2, if_neg h4, if_neg h4, if_pos h5, if_pos h5]
  by_cases h6 : c.kind = 6
  · rw [if_neg h0, if_neg h0, if_neg h1, if_neg h1, if_neg h2, if_neg h2, if_neg h4, if_neg h4, if_neg h5, if_neg h5, if_pos h6, if_pos h6]
  by_cases h7 : c.kind = 7
  · rw [if_neg h0, if_neg h0, if_neg h1, if_neg h1, if_neg h2, if_neg h2, if_neg h4, if_neg h4, if_neg h5, if_neg h5, if_neg h6, if_neg h6, if_pos h7, if_pos h7]
  have h8 : c.kind = 8 := by omega
  rw [if_neg h0, if_neg h0, if_neg h1, if_neg h1, if_neg h2, if_neg h2, if_neg h4, if_neg h4, if_neg h5, if_neg h5, if_neg h6, if_neg h6, if_neg h7, if_neg h7, if_pos h8, if_pos h8]
end
theorem cntS_le (x : Int) : cntS x ≤ 64 ∧ 1 ≤ cntS x := ⟨(cntS_pos x).2, (cntS_pos x).1⟩
set_option maxRecDepth 100000 in
set_option maxHeartbeats 16000000 in
theorem lawShards_calls (cs : List CallV) (na nb : Int) (CA : Option Addr) (cc : Nat) (w0 : World) (hr : Reads w0 w0.heap.size 6 CA cs.length (cs.flatMap CallV.cs)) (hwf : ∀ c ∈ cs, wfI c.n) (hl : cs.length ≤ 2600000000000) (hG : HG w0) :
    Calls Tryz.prog 5 #[.slice CA cs.length cc, .int .i64 na, .int .i64 nb] w0 fun e w' => e = .returned (.bool true) ∧ Below w0.heap.size w0 w' := by
  have HR := Lib.hid hr
  have HWF := Lib.hid hwf
  have HGG := Lib.hid hG
  clear hr hwf hG
  go_enter Tryz.func5, Tryz.ntmps5
  go_wp2_with (fail)
  refine (newS_calls na w0).mono ?_
  rintro e w1 ⟨s, rfl, hs1, hsn, hsc, hsR, hsb, hb1, ho1⟩
  have HN : Hid (s.n = cntS na) := Lib.hid hsn
  have H1 := Lib.hid (⟨hs1, hsc, hsR, hsb, hb1, ho1⟩ : StAt w1 s ∧ s.chs = [] ∧ s.R = [] ∧ s.bg = 0 ∧ Below w0.heap.size w0 w1 ∧ ∀ i, s.of i → w0.heap.size ≤ i)
  clear hs1 hsn hsc hsR hsb hb1 ho1
  go_wp2_with (fail)
  refine (newS_calls nb w1).mono ?_
  rintro e w2 ⟨t, rfl, ht1, htn, htc, htR, htb, hb2, ho2⟩
  have H2 := Lib.hid (⟨ht1, htc, htR, htb, hb2, ho2⟩ : StAt w2 t ∧ t.chs = [] ∧ t.R = [] ∧ t.bg = 0 ∧ Below w1.heap.size w1 w2 ∧ ∀ i, t.of i → w1.heap.size ≤ i)
  clear ht1 htn htc htR htb hb2 ho2
  go_wp2_with (fail)
  refine (NI.newS_calls nb w2).mono ?_
  rintro e w3 ⟨u, rfl, hu1, hun, huc, huR, hub, hb3, ho3⟩
  have hT : T3 w0 w3 0 s t u ⟨[], [], 0⟩ := by
    obtain ⟨a1, a2, a3, a4, a5, a6⟩ := H1.out
    obtain ⟨c1, c2, c3, c4, c5, c6⟩ := H2.out
    have z1 : w0.heap.size ≤ w1.heap.size := a5.size
    have z2 : w1.heap.size ≤ w2.heap.size := c5.size
    refine ⟨(a1.below c5).below hb3, c1.below hb3, hu1, ⟨by unfold StV.rows; rw [a2]; exact List.Perm.refl _, a3, a4⟩, ⟨by unfold StV.rows; rw [c2]; exact List.Perm.refl _, c3, c4⟩, ⟨by unfold NI.StV.rows; rw [huc]; exact List.Perm.refl _, huR, hub⟩,
      ⟨Nat.le_refl _, Nat.le_refl _, Nat.le_refl _, List.nodup_nil⟩, fun i hi hti => ?_, fun i hi hti => ?_, fun i hi hti => ?_, a6, fun i hi => ?_, fun i hi => ?_, below_after (below_after a5 c5) hb3⟩
    · have := a1.lt hi; have := c6 i hti; omega
    · have := a1.lt hi; have := ho3 i hti; omega
    · have := c1.lt hi; have := ho3 i hti; omega
    · have := c6 i hi; omega
    · have := ho3 i hi; omega
  have HT := Lib.hid hT
  clear hu1 hun huc huR hub hb3 ho3 hT
  obtain ⟨sp, hsp⟩ : ∃ p, s.p = p := ⟨_, rfl⟩
  obtain ⟨tp, htp⟩ : ∃ p, t.p = p := ⟨_, rfl⟩
  obtain ⟨up, hup⟩ : ∃ p, u.p = p := ⟨_, rfl⟩
  rw [hsp, htp, hup]
  have HP := Lib.hid (⟨hsp, htp, hup⟩ : s.p = sp ∧ t.p = tp ∧ u.p = up)
  clear hsp htp hup
  go_wp2_with (fail)
  refine (worksS_calls w3 (HGG.out.below HT.out.bel)).mono ?_
  rintro e w4 ⟨rfl, hb4⟩
  have HT4 := Lib.hid (HT.out.below hb4)
  clear hb4
  go_wp2_with (fail)
  go_loopw [10] (fun i wr => ∃ (k : Nat) (A : AbS) (s' t : StV) (u : NI.StV), k ≤ cs.length ∧ i = .int .i64 k ∧ s'.p = sp ∧ t.p = tp ∧ u.p = up ∧ s'.n = s.n ∧ T3 w0 wr k s' t u A) (fun i _ => cs.length - (intOf i).toNat)
  case atStart => exact ⟨0, _, s, t, u, by omega, rfl, HP.out.1, HP.out.2.1, HP.out.2.2, rfl, HT4.out⟩
  case round =>
    clear HT HT4 HP
    obtain ⟨k, A, s', t, u, hk, rfl, rfl, rfl, rfl, hn, hS⟩ := hrel
    have HNN := Lib.hid hn
    have HS := Lib.hid hS
    clear hn hS
    by_cases hlt : k < cs.length
    · have hkl : (k : Int) < cs.length := by omega
      have hrw := (HR.out.below HS.out.bel).more HS.out.bel.size
      obtain ⟨ad, rfl, hadk, k0, k1, k2, k3, k4, k5⟩ := call_at hrw hlt
      have hcw := HWF.out cs[k] (List.getElem_mem hlt)
      obtain ⟨c, hc⟩ : ∃ c, cs[k] = c := ⟨_, rfl⟩
      rw [hc] at k0 k1 k2 k3 k4 k5 hcw
      obtain ⟨on, kd, ⟨acc, ast⟩, n, v⟩ := c
      simp only at k0 k1 k2 k3 k4 k5 hcw
      have HCW := Lib.hid hcw
      clear hrw hc hcw hadk
      obtain ⟨g, hg⟩ : ∃ g, wr.heap.size = g := ⟨_, rfl⟩
      obtain ⟨W1, hW1⟩ : ∃ X, wr.alloc (.cells #[.int .i64 on, .int .i64 kd, .int .i64 acc, .int .i64 ast, .int .i64 n, .string v] 35) = X := ⟨_, rfl⟩
      have hB1 : Blk W1 g 35 #[.int .i64 on, .int .i64 kd, .int .i64 acc, .int .i64 ast, .int .i64 n, .string v] := by rw [← hW1, ← hg]; exact Blk.new _ _ _
      have hb1 : Below wr.heap.size wr W1 := hW1 ▸ (Below.refl _ _).alloc (Nat.le_refl _) _
      have q1 : W1.cell? ⟨g, 1, none⟩ = some (.int .i64 kd) := hB1.cell 1
      have HG1 := Lib.hid hg
      have HW1 := Lib.hid hW1
      have HB1 := Lib.hid hB1
      have HBB := Lib.hid hb1
      clear hg hW1 hB1 hb1
      by_cases h08 : 0 ≤ kd ∧ kd ≤ 8
      · have H08 := Lib.hid h08
        have h0a : ¬ kd < 0 := by omega
        have h8a : ¬ 8 < kd := by omega
        clear h08
        by_cases h3 : kd = 3
        · subst h3
          obtain ⟨ks, hks⟩ : ∃ ks, srtK (A.rows.map (·.1)) = ks := ⟨_, rfl⟩
          have hkl2 := HS.out.kn
          rw [hks] at hkl2
          have HKL : Hid (ks.length ≤ 4611686018427387904) := Lib.hid (by omega)
          have HSB := Lib.hid (HS.out.below HBB.out)
          have hsS := fun (w : World) (h : T3 w0 w k s' t u A) => h.keysS (by omega)
          have hsT := fun (w : World) (h : T3 w0 w k s' t u A) => h.keysT (by omega)
          have hsU := fun (w : World) (h : T3 w0 w k s' t u A) => h.keysU (by omega)
          rw [hks] at hsS hsT hsU
          have HKS := Lib.hid hsS
          have HKT := Lib.hid hsT
          have HKU := Lib.hid hsU
          clear hks hkl2 hsS hsT hsU
          go_wp2_with (fail)
          rw [HW1.out, HG1.out]
          go_wp2_with (fail)
          refine (HKS.out W1 HSB.out).mono ?_
          rintro e w5 ⟨B1, c1, rfl, hx5, hb5⟩
          have HS5 := Lib.hid (HSB.out.below hb5)
          have HX5 := Lib.hid hx5
          clear hx5 hb5
          go_wp2_with (fail)
          refine (HKT.out w5 HS5.out).mono ?_
          rintro e w6 ⟨B2, c2, rfl, hx6, hb6⟩
          have HS6 := Lib.hid (HS5.out.below hb6)
          have HX6 := Lib.hid hx6
          have HX56 := Lib.hid (own_up HX5.out hb6)
          clear hx6 hb6
          go_wp2_with (fail)
          refine (sameK_own ks B1 B2 c1 c2 w6 HX56.out HX6.out HKL.out).mono ?_
          rintro e w7 ⟨rfl, hb7⟩
          have HS7 := Lib.hid (HS6.out.below hb7)
          clear hb7
          go_wp2_with (fail)
          refine (HKS.out w7 HS7.out).mono ?_
          rintro e w8 ⟨B3, c3, rfl, hx8, hb8⟩
          have HS8 := Lib.hid (HS7.out.below hb8)
          have HX8 := Lib.hid hx8
          clear hx8 hb8
          go_wp2_with (fail)
          refine (HKU.out w8 HS8.out).mono ?_
          rintro e w9 ⟨B4, c4, rfl, hx9, hb9⟩
          have HS9 := Lib.hid (HS8.out.below hb9)
          have HX9 := Lib.hid hx9
          have HX89 := Lib.hid (own_up HX8.out hb9)
          clear hx9 hb9
          go_wp2_with (fail)
          refine (sameK_own ks B3 B4 c3 c4 w9 HX89.out HX9.out HKL.out).mono ?_
          rintro e wA ⟨rfl, hbA⟩
          have HSA := Lib.hid (HS9.out.below hbA)
          clear hbA
          go_wp2_with (fail)
          go_roundw
          case rel => exact ⟨k + 1, A, s', t, u, by omega, by go_num, rfl, rfl, rfl, HNN.out, HSA.out.up⟩
          case measure => simp [intOf]; omega
        · have e3 : (kd == 3) = false := by simpa using h3
          have H3 := Lib.hid h3
          clear h3
          obtain ⟨sd, hsd⟩ : ∃ sd, ansA A s'.n ⟨on, kd, ⟨acc, ast⟩, n, v⟩ = sd := ⟨_, rfl⟩
          have hsd2 : ansA A t.n ⟨on, kd, ⟨acc, ast⟩, n, v⟩ = sd := (ansA_ns (A := A) (c := ⟨on, kd, ⟨acc, ast⟩, n, v⟩) H3.out H08.out _ _).trans hsd
          obtain ⟨av, an, aok⟩ := sd
          have hsb := HS.out.below HBB.out
          have hask := ask_calls s' A k ⟨on, kd, ⟨acc, ast⟩, n, v⟩ W1 hsb.sa hsb.ss hsb.bnd (by omega) HCW.out (HGG.out.below hsb.bel) (fun i hi => Nat.lt_of_lt_of_le HGG.out.lt (hsb.ls i hi))
          have hcs : CallV.cs ⟨on, kd, ⟨acc, ast⟩, n, v⟩ = [.int .i64 on, .int .i64 kd, .int .i64 acc, .int .i64 ast, .int .i64 n, .string v] := rfl
          rw [hcs] at hask
          have HASK := Lib.hid hask
          have HSD := Lib.hid hsd
          have HSD2 := Lib.hid hsd2
          have HSB := Lib.hid hsb
          have q0 : W1.cell? ⟨g, 0, none⟩ = some (.int .i64 on) := HB1.out.cell 0
          have q2 : W1.cell? ⟨g, 2, none⟩ = some (.int .i64 acc) := HB1.out.cell 2
          have q3 : W1.cell? ⟨g, 3, none⟩ = some (.int .i64 ast) := HB1.out.cell 3
          have q4 : W1.cell? ⟨g, 4, none⟩ = some (.int .i64 n) := HB1.out.cell 4
          have q5 : W1.cell? ⟨g, 5, none⟩ = some (.string v) := HB1.out.cell 5
          clear hask hcs hsd hsd2 hsb
          go_wp2_with (fail)
          rw [HW1.out, HG1.out]
          go_wp2_with (fail)
          refine HASK.out.mono ?_
          rintro e w2 ⟨s2, he, hA⟩
          obtain rfl : e = .returned (.agg #[.string av, .int .i64 an, .bool aok]) := by rw [he, HSD.out]; rfl
          obtain ⟨g3, hg3⟩ : ∃ g, w2.heap.size = g := ⟨_, rfl⟩
          obtain ⟨W3, hW3⟩ : ∃ X, w2.alloc (.cells #[.string av, .int .i64 an, .bool aok] 37) = X := ⟨_, rfl⟩
          have hgo : ∀ i, (s'.of i ∨ t.of i ∨ u.of i) → i < g := by
            intro i hi
            have h1 := HS.out
            rw [← HG1.out]
            rcases hi with hi | hi | hi
            · exact h1.sa.lt hi
            · exact h1.ta.lt hi
            · exact h1.ua.lt hi
          have hb3 : Below w2.heap.size w2 W3 := hW3 ▸ (Below.refl _ _).alloc (Nat.le_refl _) _
          have hB3 : Blk W3 g3 37 #[.string av, .int .i64 an, .bool aok] := by rw [← hW3, ← hg3]; exact Blk.new _ _ _
          have hBg2 : Blk w2 g 35 #[.int .i64 on, .int .i64 kd, .int .i64 acc, .int .i64 ast, .int .i64 n, .string v] := HB1.out.but hA.but (fun hi => Nat.lt_irrefl _ (hgo _ (.inl hi)))
          have hBg : Blk W3 g 35 #[.int .i64 on, .int .i64 kd, .int .i64 acc, .int .i64 ast, .int .i64 n, .string v] := hBg2.below hb3 hBg2.lt
          have hlg3 : g < g3 := by have := hBg2.lt; omega
          have q0W3 : W3.cell? ⟨g, 0, none⟩ = some (.int .i64 on) := hBg.cell 0; have q1W3 : W3.cell? ⟨g, 1, none⟩ = some (.int .i64 kd) := hBg.cell 1; have q2W3 : W3.cell? ⟨g, 2, none⟩ = some (.int .i64 acc) := hBg.cell 2; have q3W3 : W3.cell? ⟨g, 3, none⟩ = some (.int .i64 ast) := hBg.cell 3; have q4W3 : W3.cell? ⟨g, 4, none⟩ = some (.int .i64 n) := hBg.cell 4; have q5W3 : W3.cell? ⟨g, 5, none⟩ = some (.string v) := hBg.cell 5; have x0W3 : W3.cell? ⟨g3, 0, none⟩ = some (.string av) := hB3.cell 0; have x1W3 : W3.cell? ⟨g3, 1, none⟩ = some (.int .i64 an) := hB3.cell 1; have x2W3 : W3.cell? ⟨g3, 2, none⟩ = some (.bool aok) := hB3.cell 2
          have hbd : Below w2.heap.size w2 W3.drew := hb3.drew
          have htd : StAt W3.drew t := ((HSB.out.ta.but hA.but (fun i hi hsi => HSB.out.st i hsi hi))).below hbd
          have b0 : Below w0.heap.size w0 W3.drew := below_after (HSB.out.bel.trans (hA.but.to_below HSB.out.ls HSB.out.bel.size)) hbd
          have hask := ask_calls t A k ⟨on, kd, ⟨acc, ast⟩, n, v⟩ W3.drew htd HS.out.ts HS.out.bnd (by omega) HCW.out (HGG.out.below b0) (fun i hi => Nat.lt_of_lt_of_le HGG.out.lt (HS.out.lt i hi))
          have hcs : CallV.cs ⟨on, kd, ⟨acc, ast⟩, n, v⟩ = [.int .i64 on, .int .i64 kd, .int .i64 acc, .int .i64 ast, .int .i64 n, .string v] := rfl
          rw [hcs] at hask
          have HASK2 := Lib.hid hask
          have HA := Lib.hid hA
          have HGO := Lib.hid hgo
          have HBD := Lib.hid hbd
          have HB0 := Lib.hid b0
          have HBG : Hid (Blk W3.drew g 35 #[.int .i64 on, .int .i64 kd, .int .i64 acc, .int .i64 ast, .int .i64 n, .string v]) := Lib.hid (hBg.below (Below.refl _ _).drew hBg.lt)
          have HB3 : Hid (Blk W3.drew g3 37 #[.string av, .int .i64 an, .bool aok]) := Lib.hid (hB3.below (Below.refl _ _).drew hB3.lt)
          have HW3 := Lib.hid hW3
          have HG3 := Lib.hid hg3
          have HL3 := Lib.hid hlg3
          have HUA : Hid (NI.StAt W3.drew u) := Lib.hid ((HSB.out.ua.but hA.but (fun i hi hsi => HSB.out.su i hsi hi)).below hbd)
          have HL3U : Hid (∀ i, (t.of i ∨ u.of i) → i < g3) := Lib.hid (fun i hi => Nat.lt_trans (hgo i (hi.elim (fun h => .inr (.inl h)) (fun h => .inr (.inr h)))) hlg3)
          clear hask hcs he hA hgo hbd htd b0 hBg hBg2 hB3 hb3 hW3 hg3 hlg3 q0 q1 q2 q3 q4 q5 k0 k1 k2 k3 k4 k5 h0a h8a e3
          go_wp2_with (fail)
          rw [HW3.out, HG3.out]
          go_region_held3 (fun w' => w'.cell? ⟨g, 0, none⟩ = some (.int .i64 on) ∧ w'.cell? ⟨g, 1, none⟩ = some (.int .i64 kd) ∧ w'.cell? ⟨g, 2, none⟩ = some (.int .i64 acc) ∧ w'.cell? ⟨g, 3, none⟩ = some (.int .i64 ast) ∧ w'.cell? ⟨g, 4, none⟩ = some (.int .i64 n) ∧ w'.cell? ⟨g, 5, none⟩ = some (.string v) ∧ w'.cell? ⟨g3, 0, none⟩ = some (.string av) ∧ w'.cell? ⟨g3, 1, none⟩ = some (.int .i64 an) ∧ w'.cell? ⟨g3, 2, none⟩ = some (.bool aok))
            (first | go_keep | fail)
            (first
              | (go_at_call 10; refine HASK2.out.mono ?_; rintro e w5 ⟨t2, he, hT⟩; obtain rfl : e = .returned (.agg #[.string av, .int .i64 an, .bool aok]) := by rw [he, HSD2.out]; rfl
                 have hBg5 : Blk w5 g 35 #[.int .i64 on, .int .i64 kd, .int .i64 acc, .int .i64 ast, .int .i64 n, .string v] := HBG.out.but hT.but (fun hi => Nat.lt_irrefl _ (HGO.out _ (.inr (.inl hi))))
                 have hB35 : Blk w5 g3 37 #[.string av, .int .i64 an, .bool aok] := HB3.out.but hT.but (fun hi => Nat.lt_irrefl _ (HL3U.out _ (.inl hi)))
                 have q0w5 : w5.cell? ⟨g, 0, none⟩ = some (.int .i64 on) := hBg5.cell 0; have q1w5 : w5.cell? ⟨g, 1, none⟩ = some (.int .i64 kd) := hBg5.cell 1; have q2w5 : w5.cell? ⟨g, 2, none⟩ = some (.int .i64 acc) := hBg5.cell 2; have q3w5 : w5.cell? ⟨g, 3, none⟩ = some (.int .i64 ast) := hBg5.cell 3; have q4w5 : w5.cell? ⟨g, 4, none⟩ = some (.int .i64 n) := hBg5.cell 4; have q5w5 : w5.cell? ⟨g, 5, none⟩ = some (.string v) := hBg5.cell 5; have x0w5 : w5.cell? ⟨g3, 0, none⟩ = some (.string av) := hB35.cell 0; have x1w5 : w5.cell? ⟨g3, 1, none⟩ = some (.int .i64 an) := hB35.cell 1; have x2w5 : w5.cell? ⟨g3, 2, none⟩ = some (.bool aok) := hB35.cell 2
                 have hua5 : NI.StAt w5 u := HUA.out.but hT.but (fun i hi hti => HS.out.tu i hti hi)
                 have b5 : Below w0.heap.size w0 w5 := HB0.out.trans (hT.but.to_below HS.out.lt HB0.out.size)
                 have hnum := number_calls u A k s'.n ⟨on, kd, ⟨acc, ast⟩, n, v⟩ H3.out H08.out w5 hua5 HS.out.us HS.out.bnd (by omega) HCW.out (HGG.out.below b5) (fun i hi => Nat.lt_of_lt_of_le HGG.out.lt (HS.out.lu i hi))
                 have hcs : (CallV.cs ⟨on, kd, ⟨acc, ast⟩, n, v⟩).toArray = #[.int .i64 on, .int .i64 kd, .int .i64 acc, .int .i64 ast, .int .i64 n, .string v] := rfl
                 have hxs : (SaidV.cs ⟨av, an, aok⟩).toArray = #[.string av, .int .i64 an, .bool aok] := rfl
                 rw [HSD.out, hcs, hxs] at hnum
                 have HNUM := Lib.hid hnum
                 have HT2 := Lib.hid hT
                 have HBG5 := Lib.hid hBg5
                 have HB35 := Lib.hid hB35
                 clear hT he hBg5 hB35 hua5 b5 hnum hcs hxs HASK2)
              | (go_at_call 23; refine HNUM.out.mono ?_; rintro e w6 ⟨u2, rfl, hU⟩
                 have hBg6 : Blk w6 g 35 #[.int .i64 on, .int .i64 kd, .int .i64 acc, .int .i64 ast, .int .i64 n, .string v] := HBG5.out.but hU.but (fun hi => Nat.lt_irrefl _ (HGO.out _ (.inr (.inr hi))))
                 have hB36 : Blk w6 g3 37 #[.string av, .int .i64 an, .bool aok] := HB35.out.but hU.but (fun hi => Nat.lt_irrefl _ (HL3U.out _ (.inr hi)))
                 have q0w6 : w6.cell? ⟨g, 0, none⟩ = some (.int .i64 on) := hBg6.cell 0; have q1w6 : w6.cell? ⟨g, 1, none⟩ = some (.int .i64 kd) := hBg6.cell 1; have q2w6 : w6.cell? ⟨g, 2, none⟩ = some (.int .i64 acc) := hBg6.cell 2; have q3w6 : w6.cell? ⟨g, 3, none⟩ = some (.int .i64 ast) := hBg6.cell 3; have q4w6 : w6.cell? ⟨g, 4, none⟩ = some (.int .i64 n) := hBg6.cell 4; have q5w6 : w6.cell? ⟨g, 5, none⟩ = some (.string v) := hBg6.cell 5; have x0w6 : w6.cell? ⟨g3, 0, none⟩ = some (.string av) := hB36.cell 0; have x1w6 : w6.cell? ⟨g3, 1, none⟩ = some (.int .i64 an) := hB36.cell 1; have x2w6 : w6.cell? ⟨g3, 2, none⟩ = some (.bool aok) := hB36.cell 2
                 have HT6 := Lib.hid (HS.out.step HBB.out HA.out HBD.out HT2.out hU)
                 have HEP := Lib.hid (⟨HA.out.ep, HT2.out.ep, hU.ep, HA.out.en⟩ : s2.p = s'.p ∧ t2.p = t.p ∧ u2.p = u.p ∧ s2.n = s'.n)
                 clear hU hBg6 hB36 HNUM))
          go_wp2_with (fail)
          go_roundw
          case rel => exact ⟨k + 1, _, s2, t2, u2, by omega, by go_num, HEP.out.1, HEP.out.2.1, HEP.out.2.2.1, HEP.out.2.2.2.trans HNN.out, HT6.out⟩
          case measure => simp [intOf]; omega
      · by_cases hneg : kd < 0
        · clear h08
          go_wp2_with (fail)
          rw [HW1.out]
          go_roundw
          case rel => exact ⟨k + 1, A, s', t, u, by omega, by go_num, rfl, rfl, rfl, HNN.out, (HS.out.below HBB.out).up⟩
          case measure => simp [intOf]; omega
        · have h8 : 8 < kd := by omega
          clear h08
          go_wp2_with (fail)
          rw [HW1.out]
          go_roundw
          case rel => exact ⟨k + 1, A, s', t, u, by omega, by go_num, rfl, rfl, rfl, HNN.out, (HS.out.below HBB.out).up⟩
          case measure => simp [intOf]; omega
    · obtain rfl : k = cs.length := by omega
      obtain ⟨wq, rfl⟩ : ∃ wq : World, wq = wr := ⟨_, rfl⟩
      have hn1 : (1 : Int) ≤ s'.n := by have := HNN.out; have := HN.out; have := cntS_le na; omega
      have hn2 : (s'.n : Int) ≤ 64 := by have := HNN.out; have := HN.out; have := cntS_le na; omega
      go_wp2_with (fail)
      refine (shards_calls s' wq HS.out.sa).mono ?_
      rintro e wx ⟨rfl, rfl⟩
      go_wp2_with (fail)
      refine (shards_calls s' wx HS.out.sa).mono ?_
      rintro e wy ⟨rfl, rfl⟩
      go_wp2_with (fail)
      refine (HS.out.versS (by omega)).mono ?_
      rintro e wz ⟨rfl, hbz⟩
      have HSZ := Lib.hid (HS.out.below hbz)
      clear hbz
      go_wp2_with (fail)
      refine (HSZ.out.versU (by omega)).mono ?_
      rintro e w9 ⟨rfl, hb9⟩
      have HB9 := Lib.hid (below_after HSZ.out.bel hb9)
      clear hb9
      go_wp2_with (fail)
      go_ret
      exact ⟨by simp, HB9.out⟩
end Go.Proofs.YtflkddllofeiaaaGreatDoor
