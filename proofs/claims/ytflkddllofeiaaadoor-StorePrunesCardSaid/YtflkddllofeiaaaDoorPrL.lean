/- StorePrunes: the law's walk. -/
import Derived.Test.YtflkddllofeiaaaDoorTwoS
import Derived.Test.YtflkddllofeiaaaDoorS6
namespace Go.Proofs.YtflkddllofeiaaaDoor
set_option linter.unusedSimpArgs false
set_option linter.unusedVariables false
open Go.RowKit Go.MapKept Go.ChangeMaps Go.Maps

set_option maxRecDepth 100000 in
set_option maxHeartbeats 16000000 in
theorem lawPrunes_calls (cs : List CallV) (n : Int) (CA : Option Addr) (cc : Nat) (w0 : World) (hr : Reads w0 w0.heap.size 6 CA cs.length (cs.flatMap CallV.cs)) (hwf : ∀ c ∈ cs, wfI c.n) (hl : cs.length ≤ 2600000000000) (hG : HG w0) :
    Calls Tryd.prog 4 #[.slice CA cs.length cc, .int .i64 n] w0 fun e w' => e = .returned (.bool true) ∧ Below w0.heap.size w0 w' := by
  have HR := Lib.hid hr
  have HWF := Lib.hid hwf
  have HG0 := Lib.hid hG
  clear hr hwf hG
  go_enter Tryd.func4, Tryd.ntmps4
  go_wp2_with (fail)
  refine (newS_calls 5 w0).mono ?_
  rintro e w1 ⟨s, rfl, hs1, hsn, hsc, hsR, hsb, hb1, ho1⟩
  have HS1 := Lib.hid hs1
  have HSC := Lib.hid hsc
  have HSR := Lib.hid hsR
  have HSB := Lib.hid hsb
  have HB1 := Lib.hid hb1
  have HO1 := Lib.hid ho1
  clear hs1 hsn hsc hsR hsb hb1 ho1
  go_wp2_with (fail)
  refine (newS_calls 5 w1).mono ?_
  rintro e w2 ⟨t, rfl, ht1, htn, htc, htR, htb, hb2, ho2⟩
  have hss := SS.two HB1.out HS1.out HO1.out hb2 ht1 ho2
  have hsim1 : Sim s ⟨[], [], 0⟩ := ⟨by unfold StV.rows; rw [HSC.out]; exact List.Perm.refl _, HSR.out, HSB.out⟩
  have hsim2 : Sim t ⟨[], [], 0⟩ := ⟨by unfold StV.rows; rw [htc]; exact List.Perm.refl _, htR, htb⟩
  have HSS := Lib.hid hss
  have HM1 := Lib.hid hsim1
  have HM2 := Lib.hid hsim2
  clear ht1 htn htc htR htb hb2 ho2 hss hsim1 hsim2
  go_wp2_with (fail)
  refine (worksS_calls w2 (HG0.out.below HSS.out.bel)).mono ?_
  rintro e w3 ⟨rfl, hb3⟩
  have HS3 := Lib.hid (HSS.out.below hb3)
  clear hb3
  obtain ⟨sp, hsp⟩ : ∃ p, s.p = p := ⟨_, rfl⟩
  obtain ⟨tp, htp⟩ : ∃ p, t.p = p := ⟨_, rfl⟩
  rw [hsp, htp]
  have HSP := Lib.hid hsp
  have HTP := Lib.hid htp
  clear hsp htp
  go_wp2_with (fail)
  go_loopw [7] (fun i wr => ∃ (k : Nat) (A : AbS) (s t : StV), k ≤ cs.length ∧ i = .int .i64 k ∧ GoodA A (cs.take k) ∧ Sim s A ∧ Sim t A ∧ s.p = sp ∧ t.p = tp ∧ SS w0 wr s t (fun _ => False)) (fun i _ => cs.length - (intOf i).toNat)
  case atStart => exact ⟨0, _, s, t, by omega, rfl, GoodA.nil, HM1.out, HM2.out, HSP.out, HTP.out, HS3.out⟩
  case round =>
    obtain ⟨k, A, s, t, hk, rfl, hA, hm1, hm2, rfl, rfl, hS⟩ := hrel
    by_cases hlt : k < cs.length
    · have hkl : (k : Int) < cs.length := by omega
      obtain ⟨ad, rfl, _, k0, k1, k2, k3, k4, k5⟩ := call_at (hS.reads HR.out) hlt
      have hT : cs.take (k + 1) = cs.take k ++ [cs[k]] := List.take_succ_eq_append_getElem hlt
      have hcw := HWF.out cs[k] (List.getElem_mem hlt)
      obtain ⟨c, hc⟩ : ∃ c, cs[k] = c := ⟨_, rfl⟩
      rw [hc] at k0 k1 k2 k3 k4 k5 hT hcw
      obtain ⟨on, kd, key, cn, cv⟩ := c
      simp only at k0 k1 k2 k3 k4 k5 hcw
      have HT := Lib.hid hT
      have HA := Lib.hid hA
      have HM1 := Lib.hid hm1
      have HM2 := Lib.hid hm2
      have HS := Lib.hid hS
      have HCW := Lib.hid hcw
      have HC := Lib.hid hc
      clear hT hA hm1 hm2 hS hcw hc
      by_cases h3 : kd = 3
      · subst h3
        go_wp2_with (fail)
        go_roundw
        case rel => exact ⟨k + 1, A, s, t, by omega, by go_num, by rw [HT.out]; exact HA.out.skip _, HM1.out, HM2.out, rfl, rfl, HS.out⟩
        case measure => simp [intOf]; omega
      · have e3 : (kd == 3) = false := by simpa using h3
        have hlen : (cs.take k).length = k := by rw [List.length_take]; omega
        have hask := ask_calls s A (cs.take k).length ⟨on, kd, key, cn, cv⟩ wr HS.out.sa HM1.out HA.out.bnd (by omega) HCW.out (HG0.out.below HS.out.bel) (fun i hi => Nat.lt_of_lt_of_le HG0.out.lt (HS.out.ls i hi))
        have hcs : CallV.cs ⟨on, kd, key, cn, cv⟩ = [.int .i64 on, .int .i64 kd, .int .i64 key.acc, .int .i64 key.ast, .int .i64 cn, .string cv] := rfl
        rw [hcs] at hask
        have HASK := Lib.hid hask
        clear hask hcs hlen
        go_wp2_with (fail)
        refine HASK.out.mono ?_
        rintro e w5 ⟨s', rfl, hq⟩
        have hs5 := HS.out.left hq.but hq.at_ hq.new
        obtain ⟨_, e5, _, k0, k1, k2, k3, k4, k5⟩ := call_at (hs5.reads HR.out) hlt
        cases e5
        rw [HC.out] at k0 k1 k2 k3 k4 k5
        simp only at k0 k1 k2 k3 k4 k5
        have hlen : (cs.take k).length = k := by rw [List.length_take]; omega
        have hask := ask_calls t A (cs.take k).length ⟨on, kd, key, cn, cv⟩ w5 hs5.ta HM2.out HA.out.bnd (by omega) HCW.out (HG0.out.below hs5.bel) (fun i hi => Nat.lt_of_lt_of_le HG0.out.lt (hs5.lt i hi))
        have hcs : CallV.cs ⟨on, kd, key, cn, cv⟩ = [.int .i64 on, .int .i64 kd, .int .i64 key.acc, .int .i64 key.ast, .int .i64 cn, .string cv] := rfl
        rw [hcs] at hask
        have HASK2 := Lib.hid hask
        have HQ := Lib.hid hq
        have HS5 := Lib.hid hs5
        clear hask hcs hlen hq hs5
        go_wp2_with (fail)
        refine HASK2.out.mono ?_
        rintro e w6 ⟨t', rfl, hq2⟩
        have HQ2 := Lib.hid hq2
        have HS6 := Lib.hid (HS5.out.right hq2.but hq2.at_ hq2.new)
        clear hq2 k0 k1 k2 k3 k4 k5
        go_wp2_with (fail)
        go_roundw
        case rel => exact ⟨k + 1, _, s', t', by omega, by go_num, by rw [HT.out]; exact HA.out.step _, HQ.out.sim, HQ2.out.sim, HQ.out.ep, HQ2.out.ep, HS6.out⟩
        case measure => simp [intOf]; omega
    · obtain rfl : k = cs.length := by omega
      rw [List.take_length] at hA
      have ho1 := oldestS_calls s n wr hS.sa
      have ho2 := fun w' (h : Below wr.heap.size wr w') => oldestS_calls t n w' (hS.ta.below h)
      rw [hm1.R] at ho1
      simp only [hm2.R] at ho2
      have hle := minL_le n A.R
      obtain ⟨o, ho⟩ : ∃ o, minL n A.R = o := ⟨_, rfl⟩
      rw [ho] at ho1 hle
      simp only [ho] at ho2
      have HO1 := Lib.hid ho1
      have HO2 := Lib.hid ho2
      have HA := Lib.hid hA
      have HM1 := Lib.hid hm1
      have HM2 := Lib.hid hm2
      have HS := Lib.hid hS
      have HO := Lib.hid ho
      clear hA hm1 hm2 hS ho1 ho2 ho
      go_wp2_with (fail)
      refine HO1.out.mono ?_
      rintro e w4 ⟨rfl, hb4⟩
      have HB4 := Lib.hid hb4
      clear hb4
      go_wp2_with (fail)
      refine (HO2.out w4 HB4.out).mono ?_
      rintro e w5 ⟨rfl, hb5⟩
      have HS5 := Lib.hid ((HS.out.below HB4.out).below hb5)
      clear hb5
      go_wp2_with (fail)
      have htl : t.chs.length ≤ cs.length := by
        have h1 := HM2.out.rows.length_eq
        have h2 := HA.out.bnd.r
        unfold StV.rows at h1
        rw [List.length_map] at h1
        omega
      refine (keysS_calls t w5 HS5.out.ta (by omega)).mono ?_
      rintro e w6 ⟨kv, ks, rfl, hown, hperm, hup, hb6⟩
      obtain ⟨KA, kc, rfl⟩ := own_slice hown
      have hkp : ks.Perm (A.rows.map (·.1)) := hperm.trans (HM2.out.rows.map _)
      have hkl : ks.length ≤ cs.length := by
        have h1 := hkp.length_eq
        have h2 := HA.out.bnd.r
        rw [List.length_map] at h1
        omega
      have hs6 := HS5.out.owns (S' := fun i => (Value.slice KA ks.length kc).ownBlock = some i) hb6 (fun i hi => .inr ⟨own_base hown hi, own_lt hown hi⟩)
      have hknd : ks.Nodup := by rw [hkp.nodup_iff]; exact HA.out.bnd.nd
      have HOWN := Lib.hid hown
      have HKP := Lib.hid hkp
      have HUP := Lib.hid hup
      have HS6 := Lib.hid hs6
      have HKND := Lib.hid hknd
      clear hown hperm hup hb6 hkp hs6 hknd htl
      go_wp2_with (fail)
      have hwfA : minL n A.R = o := HO.out
      go_loopw [10] (fun i wr => ∃ (k : Nat) (s' : StV), k ≤ ks.length ∧ i = .int .i64 k ∧ s'.rows.Perm (A.rows.map (prq o (ks.take k))) ∧ s'.R = A.R ∧ s'.p = s.p ∧ wr.ownsRow w5.heap.size 23 2 (.slice KA ks.length kc) ks.length (keysC ks) ∧ SS w0 wr s' t (fun i => (Value.slice KA ks.length kc).ownBlock = some i)) (fun i _ => ks.length - (intOf i).toNat)
      case atStart => exact ⟨0, s, by omega, rfl, by
        have : A.rows.map (prq o (ks.take 0)) = A.rows := by
          conv => rhs; rw [← List.map_id A.rows]
          exact List.map_congr_left (fun q _ => prq_not (by simp))
        rw [this]; exact HM1.out.rows, HM1.out.R, rfl, HOWN.out, HS6.out⟩
      case round =>
        obtain ⟨k, s1, hk, rfl, hrows, hR, hp, hown, hS⟩ := hrel
        by_cases hlt : k < ks.length
        · have hkl2 : (k : Int) < ks.length := by omega
          obtain ⟨ad, rfl, _, k0, k1⟩ := keys_at2 (Reads.of_own hown) hlt
          have hT : ks.take (k + 1) = ks.take k ++ [ks[k]] := List.take_succ_eq_append_getElem hlt
          have hnot : ks[k] ∉ ks.take k := fun h => by
            obtain ⟨j, hj, e⟩ := List.getElem_of_mem h
            rw [List.getElem_take] at e
            rw [List.length_take] at hj
            have := (List.getElem_inj HKND.out).1 e
            omega
          obtain ⟨key, hkey⟩ : ∃ x, ks[k] = x := ⟨_, rfl⟩
          rw [hkey] at k0 k1 hT hnot
          have hpr := pruneS_calls s1 key n wr hS.sa
          rw [hp] at hpr
          unfold PruneSQ at hpr
          rw [hR, HO.out] at hpr
          have HPR := Lib.hid hpr
          have HROWS := Lib.hid hrows
          have HRR := Lib.hid hR
          have HPP := Lib.hid hp
          have HOWN2 := Lib.hid hown
          have HS2 := Lib.hid hS
          have HT := Lib.hid hT
          have HNOT := Lib.hid hnot
          clear hpr hrows hR hp hown hS hT hnot hkey hwfA
          go_wp2_with (fail)
          refine HPR.out.mono ?_
          rintro e w7 ⟨s2, rfl, hq⟩
          have h1 : s2.rows.Perm (A.rows.map (prq o (ks.take (k + 1)))) := by
            rw [hq.erows, HT.out, ← prq_snoc HA.out.bnd.nd o (ks.take k) HNOT.out]
            exact prR_perm HROWS.out (by rw [prq_keys]; exact HA.out.bnd.nd)
          have h2 := HS2.out.left hq.but hq.at_ hq.new
          have h3 := own_but HOWN2.out hq.but (fun b hb hs => (HS2.out.own b hb).2.2.1 hs)
          have H1 := Lib.hid h1
          have H2 := Lib.hid h2
          have H3 := Lib.hid h3
          have HEP := Lib.hid (hq.ep.trans HPP.out)
          have HER := Lib.hid (hq.eR.trans HRR.out)
          clear h1 h2 h3 hq
          go_wp2_with (fail)
          go_roundw
          case rel => exact ⟨k + 1, s2, by omega, by go_num, H1.out, HER.out, HEP.out, H3.out, H2.out⟩
          case measure => simp [intOf]; omega
        · obtain rfl : k = ks.length := by omega
          rw [List.take_length] at hrows
          have hupA : ∀ q ∈ A.rows, UpV q.2 := fun q hq => rows_up HS.out.sa q (HM1.out.rows.mem_iff.2 hq)
          have hget1 : ∀ key, getR s1.rows key = pruneL (getR A.rows key) o := fun key => by
            rw [getR_perm hrows (by rw [prq_keys]; exact HA.out.bnd.nd), getR_all HA.out.bnd.nd o HKP.out]
          have hget2 : ∀ key, getR t.rows key = getR A.rows key := fun key => getR_perm HM2.out.rows HA.out.bnd.nd key
          have hupG : ∀ key, UpV (getR A.rows key) := fun key => by rw [← hget2]; exact getR_up hS.ta key
          have hne : ∀ key ∈ ks, 0 < (getR A.rows key).length := fun key hk => by
            obtain ⟨q, hq, rfl⟩ := List.mem_map.1 (HKP.out.mem_iff.1 hk)
            have : getR A.rows q.1 = q.2 := by unfold getR; rw [mget_of_mem HA.out.bnd.nd (v := q.2) hq]; rfl
            rw [this]
            exact HA.out.ne q hq
          have HGET1 := Lib.hid hget1
          have HGET2 := Lib.hid hget2
          have HUPA := Lib.hid hupA
          have HUPG := Lib.hid hupG
          have HNE := Lib.hid hne
          have HROWS := Lib.hid hrows
          have HRR := Lib.hid hR
          have HPP := Lib.hid hp
          have HOWN2 := Lib.hid hown
          have HS2 := Lib.hid hS
          clear hget1 hget2 hupA hupG hne hrows hR hp hown hS hwfA
          go_wp2_with (fail)
          go_loopw [11, 12] (fun a i wr => ∃ (k : Nat) (s' : StV), k ≤ ks.length ∧ i = .int .i64 k ∧ a = .int .i64 (aboveN (ks.take k) cs o) ∧ s'.rows.Perm (A.rows.map (prq o ks)) ∧ s'.R = A.R ∧ s'.p = s.p ∧ wr.ownsRow w5.heap.size 23 2 (.slice KA ks.length kc) ks.length (keysC ks) ∧ SS w0 wr s' t (fun i => (Value.slice KA ks.length kc).ownBlock = some i)) (fun _ i _ => ks.length - (intOf i).toNat)
          case atStart => exact ⟨0, s1, by omega, rfl, rfl, HROWS.out, HRR.out, HPP.out, HOWN2.out, HS2.out⟩
          case round =>
            obtain ⟨k, s1, hk, rfl, rfl, hrows, hR, hp, hown, hS⟩ := hrel
            have hget1 : ∀ key, getR s1.rows key = pruneL (getR A.rows key) o := fun key => by
              rw [getR_perm hrows (by rw [prq_keys]; exact HA.out.bnd.nd), getR_all HA.out.bnd.nd o HKP.out]
            by_cases hlt : k < ks.length
            · have hkl2 : (k : Int) < ks.length := by omega
              obtain ⟨ad, rfl, _, k0, k1⟩ := keys_at2 (Reads.of_own hown) hlt
              have hT : ks.take (k + 1) = ks.take k ++ [ks[k]] := List.take_succ_eq_append_getElem hlt
              have hkm : ks[k] ∈ ks := List.getElem_mem hlt
              obtain ⟨key, hkey⟩ : ∃ x, ks[k] = x := ⟨_, rfl⟩
              rw [hkey] at k0 k1 hT hkm
              have hLp := HNE.out key hkm
              obtain ⟨Lv, hLv⟩ : ∃ L, getR A.rows key = L := ⟨_, rfl⟩
              have hup := HUPG.out key
              have hl1 := fun w' (h : Below wr.heap.size wr w') => lastS_calls s1 key w' (hS.sa.below h)
              have hl2 := fun w' (h : Below wr.heap.size wr w') => lastS_calls t key w' (hS.ta.below h)
              simp only [hget1, hLv, prune_lastV, prune_lastM] at hl1
              simp only [HGET2.out, hLv] at hl2
              rw [hLv] at hLp hup
              have hd1 : decide (0 < (pruneL Lv o).length) = true := decide_eq_true (by have := prune_nil Lv o; omega)
              have hd2 : decide (0 < Lv.length) = true := decide_eq_true hLp
              simp only [hd1, hp] at hl1
              simp only [hd2] at hl2
              have hpr := fun w' (h : Below wr.heap.size wr w') => pruneS_calls s1 key n w' (hS.sa.below h)
              unfold PruneSQ at hpr
              simp only [hR, HO.out, hget1, hLv, (prune_again hup o).2, hp] at hpr
              obtain ⟨v, hv⟩ : ∃ v, lastV Lv = v := ⟨_, rfl⟩
              obtain ⟨mm, hmm⟩ : ∃ v, lastM Lv = v := ⟨_, rfl⟩
              simp only [hv, hmm] at hl1 hl2
              have hab : aboveN (ks.take (k + 1)) cs o = aboveN (ks.take k) cs o + cntP cs key o := by rw [hT, aboveN_app]
              have habl : aboveN (ks.take (k + 1)) cs o ≤ cs.length := aboveN_le ((List.take_sublist _ _).nodup HKND.out) cs o
              obtain ⟨AB, hAB⟩ : ∃ x, aboveN (ks.take k) cs o = x := ⟨_, rfl⟩
              rw [hAB] at hab
              rw [hAB]
              have HL1 := Lib.hid hl1
              have HL2 := Lib.hid hl2
              have HPR := Lib.hid hpr
              have HROWS2 := Lib.hid hrows
              have HRR2 := Lib.hid hR
              have HPP2 := Lib.hid hp
              have HOWN3 := Lib.hid hown
              have HS3 := Lib.hid hS
              have HKM := Lib.hid hkm
              have HKEY := Lib.hid hkey
              have HABL := Lib.hid (show AB + cntP cs key o ≤ cs.length by omega)
              have HAB := Lib.hid hab
              clear hl1 hl2 hpr hrows hR hp hown hS hT hkm hkey hget1 hLv hup hd1 hd2 hv hmm hab habl hAB hLp
              go_wp2_with (fail)
              refine (HL1.out wr (Below.refl _ _)).mono ?_
              rintro e w7 ⟨rfl, hb7⟩
              obtain ⟨_, e7, _, k0, k1⟩ := keys_at2 (Reads.of_own (own_but HOWN3.out (But.of_below hb7 (fun _ => False)) (fun _ _ h => h))) hlt
              cases e7
              rw [HKEY.out] at k0 k1
              have HB7 := Lib.hid hb7
              clear hb7
              go_wp2_with (fail)
              refine (HL2.out w7 HB7.out).mono ?_
              rintro e w8 ⟨rfl, hb8⟩
              have HB8 := Lib.hid (HB7.out.trans (hb8.mono HB7.out.size))
              obtain ⟨_, e8, _, k0, k1⟩ := keys_at2 (Reads.of_own (own_but HOWN3.out (But.of_below HB8.out (fun _ => False)) (fun _ _ h => h))) hlt
              cases e8
              rw [HKEY.out] at k0 k1
              clear hb8
              go_wp2_with (fail)
              refine (HPR.out w8 HB8.out).mono ?_
              rintro e w9 ⟨s2, rfl, hq⟩
              have h1 : s2.rows.Perm (A.rows.map (prq o ks)) := by
                have hi := prR_idem HA.out.bnd.nd HUPA.out o HKM.out
                rw [hq.erows, ← hi]
                exact prR_perm HROWS2.out (by rw [prq_keys]; exact HA.out.bnd.nd)
              have hs8 := HS3.out.below HB8.out
              have h2 := hs8.left hq.but hq.at_ hq.new
              have h3 := own_but (own_but HOWN3.out (But.of_below HB8.out (fun _ => False)) (fun _ _ h => h)) hq.but (fun b hb hs => (hs8.own b hb).2.2.1 hs)
              have H1 := Lib.hid h1
              have H2 := Lib.hid h2
              have H3 := Lib.hid h3
              have HEP := Lib.hid (hq.ep.trans HPP2.out)
              have HER := Lib.hid (hq.eR.trans HRR2.out)
              clear h1 h2 h3 hq hs8 k0 k1
              go_wp2_with (fail)
              go_loopw [11, 19] (fun a i wr => ∃ j : Nat, j ≤ cs.length ∧ i = .int .i64 j ∧ a = .int .i64 ((AB + cntP (cs.take j) key o : Nat) : Int) ∧ Below w9.heap.size w9 wr) (fun _ i _ => cs.length - (intOf i).toNat)
              case atStart => exact ⟨0, by omega, rfl, by simp [cntP], Below.refl _ _⟩
              case round =>
                obtain ⟨j, hj, rfl, rfl, hb⟩ := hrel
                by_cases hjl : j < cs.length
                · have hjl2 : (j : Int) < cs.length := by omega
                  have hbd : Below w9.heap.size w9 wr.drew := hb.drew
                  obtain ⟨_, e9, _, k0, k1⟩ := keys_at2 (Reads.of_own (own_but H3.out (But.of_below hbd (fun _ => False)) (fun _ _ h => h))) hlt
                  cases e9
                  rw [HKEY.out] at k0 k1
                  obtain ⟨ac, eac, _, l0, l1, l2, l3, l4, l5⟩ := call_at ((H2.out.below hbd).reads HR.out) hjl
                  subst eac
                  have hT : cs.take (j + 1) = cs.take j ++ [cs[j]] := List.take_succ_eq_append_getElem hjl
                  have hcs := cntP_snoc (cs.take j) cs[j] key o
                  rw [← hT] at hcs
                  have hcl : cntP (cs.take (j + 1)) key o ≤ cntP cs key o := ((List.take_sublist _ _).filter _).length_le
                  have habl := HABL.out
                  obtain ⟨c, hc⟩ : ∃ c, cs[j] = c := ⟨_, rfl⟩
                  rw [hc] at l1 l2 l3 l4 hcs
                  obtain ⟨on, kd, ck, cn, cv⟩ := c
                  simp only at l1 l2 l3 l4
                  obtain ⟨N, hN⟩ : ∃ N, AB + cntP (cs.take j) key o = N := ⟨_, rfl⟩
                  rw [hN]
                  have HB := Lib.hid hb
                  have l1 : wr.cell? _ = _ := l1
                  have l2 : wr.cell? _ = _ := l2
                  have l3 : wr.cell? _ = _ := l3
                  have l4 : wr.cell? _ = _ := l4
                  have k0 : wr.cell? _ = _ := k0
                  have k1 : wr.cell? _ = _ := k1
                  by_cases h0 : kd = 0 ∧ ck = key ∧ o < cn
                  · obtain ⟨rfl, rfl, hoc⟩ := h0
                    have hp : isPut ck o ⟨on, 0, ck, cn, cv⟩ = true := by simp [isPut, hoc]
                    rw [hp, if_pos rfl] at hcs
                    have HCS : Hid (AB + cntP (cs.take (j + 1)) ck o = N + 1) := by show _ = _; omega
                    have hwr : IntKind.i64.wrap ((N : Int) + 1) = (N : Int) + 1 := IntWalk.i64_in _ (by omega)
                    clear hb hT hcs hcl habl hc hN hp hbd l0 l5
                    go_wp2_with (fail)
                    go_quiet (fail)
                    go_wp2_with (fail)
                    go_roundw
                    case rel => exact ⟨j + 1, by omega, by go_num, by rw [HCS.out]; go_num, below_drewN HB.out _⟩
                    case measure => simp [intOf]; omega
                  · have hp : isPut key o ⟨on, kd, ck, cn, cv⟩ = false := by
                      simp only [isPut]
                      by_cases a1 : kd = 0
                      · by_cases a2 : ck = key
                        · have : ¬ o < cn := fun a3 => h0 ⟨a1, a2, a3⟩
                          simp [this]
                        · simp [a2]
                      · simp [a1]
                    rw [hp] at hcs
                    have HCS : Hid (AB + cntP (cs.take (j + 1)) key o = N) := by show _ = _; simp at hcs; omega
                    have h4 : kd ≠ 0 ∨ (kd = 0 ∧ ck.acc ≠ key.acc) ∨ (kd = 0 ∧ ck.acc = key.acc ∧ ck.ast ≠ key.ast) ∨ (kd = 0 ∧ ck.acc = key.acc ∧ ck.ast = key.ast ∧ cn ≤ o) := by
                      by_cases a1 : kd = 0
                      · by_cases a2 : ck.acc = key.acc
                        · by_cases a3 : ck.ast = key.ast
                          · exact .inr (.inr (.inr ⟨a1, a2, a3, by
                              have : ck = key := by cases ck; cases key; simp_all
                              have : ¬ o < cn := fun a4 => h0 ⟨a1, this, a4⟩
                              omega⟩))
                          · exact .inr (.inr (.inl ⟨a1, a2, a3⟩))
                        · exact .inr (.inl ⟨a1, a2⟩)
                      · exact .inl a1
                    clear hb hT hcs hcl habl hc hN hp hbd l0 l5 h0
                    rcases h4 with a1 | ⟨rfl, a2⟩ | ⟨rfl, a2, a3⟩ | ⟨rfl, a2, a3, a4⟩
                    · have e1 : (kd == 0) = false := by simpa using a1
                      go_wp2_with (fail)
                      go_quiet (fail)
                      go_wp2_with (fail)
                      go_roundw
                      case rel => exact ⟨j + 1, by omega, by go_num, by rw [HCS.out], below_drewN HB.out _⟩
                      case measure => simp [intOf]; omega
                    · go_wp2_with (fail)
                      go_quiet (fail)
                      go_wp2_with (fail)
                      go_roundw
                      case rel => exact ⟨j + 1, by omega, by go_num, by rw [HCS.out], below_drewN HB.out _⟩
                      case measure => simp [intOf]; omega
                    · rw [a2] at l2
                      go_wp2_with (fail)
                      go_quiet (fail)
                      go_wp2_with (fail)
                      go_roundw
                      case rel => exact ⟨j + 1, by omega, by go_num, by rw [HCS.out], below_drewN HB.out _⟩
                      case measure => simp [intOf]; omega
                    · rw [a2] at l2
                      rw [a3] at l3
                      go_wp2_with (fail)
                      go_quiet (fail)
                      go_wp2_with (fail)
                      go_roundw
                      case rel => exact ⟨j + 1, by omega, by go_num, by rw [HCS.out], below_drewN HB.out _⟩
                      case measure => simp [intOf]; omega
                · obtain rfl : j = cs.length := by omega
                  rw [List.take_length, ← HAB.out]
                  have h2 := H2.out.below hb
                  have h3 := own_but H3.out (But.of_below hb (fun _ => False)) (fun _ _ h => h)
                  have H2b := Lib.hid h2
                  have H3b := Lib.hid h3
                  clear h2 h3 hb
                  go_wp2_with (fail)
                  go_roundw
                  case rel => exact ⟨k + 1, s2, by omega, by go_num, rfl, H1.out, HER.out, HEP.out, H3b.out, H2b.out⟩
                  case measure => simp [intOf]; omega
            · obtain rfl : k = ks.length := by omega
              rw [List.take_length]
              have hsee : SeeN s1 t o := fun key m hm => by
                rw [hget1, HGET2.out]
                have h1 := prune_pos (HUPG.out key) hm
                exact ⟨prune_atV (HUPG.out key) hm, decide_eq_decide.2 h1⟩
              have hsc := sees_calls s1 t cs CA cc o wr hS.sa hS.ta (hS.reads HR.out) (by omega) hsee
              rw [hp] at hsc
              have hkp1 : (s1.rows.map (·.1)).Perm (A.rows.map (·.1)) := by
                have := hrows.map (·.1)
                rwa [prq_keys] at this
              have hcl1 : s1.chs.length ≤ cs.length := by
                have h1 := hkp1.length_eq
                have h2 := HA.out.bnd.r
                unfold StV.rows at h1
                simp only [List.length_map] at h1
                omega
              have hkeys := fun w' (h : Below wr.heap.size wr w') => keysS_calls s1 w' (hS.sa.below h) (by omega)
              have htot : total s1.rows ≤ ks.length + aboveN ks cs o := by rw [total_perm hrows]; exact total_prq HA.out HKP.out o
              have habl := aboveN_le HKND.out cs o
              have hver := fun w' (h : Below wr.heap.size wr w') => versionsS_calls s1 w' (hS.sa.below h) (by rw [lens_rows]; omega)
              simp only [hp] at hkeys hver
              rw [lens_rows] at hver
              obtain ⟨TT, hTT⟩ : ∃ x, total s1.rows = x := ⟨_, rfl⟩
              obtain ⟨AB, hAB⟩ : ∃ x, aboveN ks cs o = x := ⟨_, rfl⟩
              simp only [hTT] at hver
              rw [hTT, hAB] at htot
              rw [hAB] at habl ⊢
              have HSC := Lib.hid hsc
              have HKEYS := Lib.hid hkeys
              have HVER := Lib.hid hver
              have HKP1 := Lib.hid hkp1
              have HOWN3 := Lib.hid hown
              have HS3 := Lib.hid hS
              have hwr : IntKind.i64.wrap ((ks.length : Int) + AB) = (ks.length : Int) + AB := IntWalk.i64_in _ (by omega)
              clear hsee hsc hkeys hver hkp1 hown hS hrows hR hp hget1 hTT hAB
              go_wp2_with (fail)
              refine HSC.out.mono ?_
              rintro e w7 ⟨rfl, hb7⟩
              have HB7 := Lib.hid hb7
              clear hb7
              go_wp2_with (fail)
              refine (HKEYS.out w7 HB7.out).mono ?_
              rintro e w8 ⟨kv2, l2, rfl, ho2, hp2, hu2, hb8⟩
              obtain rfl : l2 = ks := sorted_eq (hp2.trans (HKP1.out.trans HKP.out.symm)) hu2 HUP.out
              obtain ⟨K2, kc2, rfl⟩ := own_slice ho2
              have HB8 := Lib.hid (HB7.out.trans (hb8.mono HB7.out.size))
              have hsame := sameK_calls l2 K2 KA kc2 kc w8 (Reads.of_own ho2) (Reads.of_own (own_but HOWN3.out (But.of_below HB8.out (fun _ => False)) (fun _ _ h => h))) (by omega)
              have HSAME := Lib.hid hsame
              clear hsame ho2 hp2 hu2 hb8
              go_wp2_with (fail)
              refine HSAME.out.mono ?_
              rintro e w9 ⟨rfl, hb9⟩
              have HB9 := Lib.hid (HB8.out.trans (hb9.mono HB8.out.size))
              clear hb9
              go_wp2_with (fail)
              refine (HVER.out w9 HB9.out).mono ?_
              rintro e w10 ⟨rfl, hb10⟩
              have HB10 := Lib.hid (HB9.out.trans (hb10.mono HB9.out.size))
              have HOWN4 := Lib.hid (own_but HOWN3.out (But.of_below HB10.out (fun _ => False)) (fun _ _ h => h))
              have HBEL := Lib.hid ((HS3.out.below HB10.out).bel)
              have htot2 : (TT : Int) ≤ (l2.length : Int) + AB := by omega
              clear hb10
              go_wp2_with (fail)
              go_loopw [20] (fun i wr => ∃ j : Nat, 1 ≤ j ∧ (j ≤ l2.length ∨ j = 1) ∧ i = .int .i64 j ∧ Below w10.heap.size w10 wr) (fun i _ => l2.length - (intOf i).toNat)
              case atStart => exact ⟨1, by omega, .inr rfl, rfl, Below.refl _ _⟩
              case round =>
                obtain ⟨j, hj1, hj2, rfl, hb⟩ := hrel
                by_cases hjl : j < l2.length
                · have hjl2 : (j : Int) < l2.length := by omega
                  obtain ⟨i, rfl⟩ : ∃ i, j = i + 1 := ⟨j - 1, by omega⟩
                  have hr1 := Reads.of_own (own_but HOWN4.out (But.of_below hb (fun _ => False)) (fun _ _ h => h))
                  obtain ⟨ad, rfl, _, k0, k1⟩ := keys_at2 hr1 (show i < l2.length by omega)
                  have hr2 := hr1.below ((Below.refl wr.heap.size wr).alloc (Nat.le_refl _) (.cells #[.int .i64 l2[i].acc, .int .i64 l2[i].ast] 23))
                  obtain ⟨_, e2, _, l0, l1⟩ := keys_at2 hr2 hjl
                  cases e2
                  have hlt2 := (List.pairwise_iff_getElem.1 HUP.out) i (i + 1) (by omega) hjl (by omega)
                  obtain ⟨a, ha⟩ : ∃ a, l2[i] = a := ⟨_, rfl⟩
                  obtain ⟨b, hbq⟩ : ∃ b, l2[i + 1] = b := ⟨_, rfl⟩
                  rw [ha] at k0 k1 hlt2 l0 l1
                  rw [hbq] at l0 l1 hlt2
                  have HB := Lib.hid hb
                  have hsub : IntKind.i64.wrap (((i + 1 : Nat) : Int) - 1) = (i : Int) := by
                    rw [show (((i + 1 : Nat) : Int) - 1) = (i : Int) by omega]
                    exact IntWalk.i64_in _ (by omega)
                  clear hr1 hr2 ha hbq hb
                  unfold ltK at hlt2
                  rcases hlt2 with h1 | ⟨h1, h2⟩
                  · have h3 : ¬ b.acc < a.acc := by omega
                    have h4 : (a.acc == b.acc) = false := by simp; omega
                    go_wp2_with (fail)
                    go_roundw
                    case rel => exact ⟨i + 1 + 1, by omega, .inl (by omega), by go_num, (HB.out.alloc HB.out.size _).alloc (by have := HB.out.size; simp; omega) _⟩
                    case measure => simp [intOf]; omega
                  · have h5 : ¬ b.ast ≤ a.ast := by omega
                    rw [h1] at k0 l0 l1
                    clear h1
                    go_wp2_with (fail)
                    go_roundw
                    case rel => exact ⟨i + 1 + 1, by omega, .inl (by omega), by go_num, (HB.out.alloc HB.out.size _).alloc (by have := HB.out.size; simp; omega) _⟩
                    case measure => simp [intOf]; omega
                · have HB := Lib.hid hb
                  clear hb
                  go_wp2
                  go_ret
                  exact ⟨rfl, HBEL.out.trans (HB.out.mono HBEL.out.size)⟩
end Go.Proofs.YtflkddllofeiaaaDoor
