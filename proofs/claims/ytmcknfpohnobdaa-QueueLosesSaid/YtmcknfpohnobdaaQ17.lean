/- QueueLoses: holds. -/
import Derived.Test.YtmcknfpohnobdaaQ16
namespace Go.Proofs.Ytmcknfpohnobdaa
set_option linter.unusedSimpArgs false
set_option linter.unusedVariables false
open Go.RowKit Go.MapKept Go.ChangeMaps Go.Maps

def Kn.idle (x : Kn) : Bool := !x.dirty && !x.out
theorem idle_nth {M : List Kn} {i : Nat} (hi : i < M.length) (h : M[i].idle = true) : (M.filter Kn.idle)[((M.take i).filter Kn.idle).length]? = some M[i] := by
  have hsplit : M = M.take i ++ M[i] :: M.drop (i + 1) := by rw [List.getElem_cons_drop, List.take_append_drop]
  have hf : M.filter Kn.idle = (M.take i).filter Kn.idle ++ M[i] :: (M.drop (i + 1)).filter Kn.idle := by
    have := congrArg (List.filter Kn.idle) hsplit
    rw [List.filter_append, List.filter_cons_of_pos h] at this
    exact this
  rw [hf, List.getElem?_append_right (Nat.le_refl _), Nat.sub_self]
  rfl
set_option maxRecDepth 100000 in
set_option maxHeartbeats 4000000 in
theorem holds_calls {p bi bw : Nat} {room turns : Int} {lv : Value} {L : List Ent} {W : List (Key × Nat)} (M : List Kn) (A : Option Addr) (c : Nat) (w : World) (h : QAt w p room turns lv bi bw L W) (hr : Reads w w.heap.size 4 A M.length (M.flatMap Kn.cs)) (hlen : L.length ≤ 5864062014805)
    (hids : L.map (·.id) = M.map (·.id)) (hidl : (L.filter (fun x => !x.rdy && !x.tkn)).map (·.id) = (M.filter Kn.idle).map (·.id)) :
    Calls Try.prog 17 #[eP p, .slice A M.length c] w fun e w' => e = .returned (.bool true) ∧ Below w.heap.size w w' := by
  have hLM : L.length = M.length := by simpa using congrArg List.length hids
  have hit := itemsQ_calls w h hlen
  rw [hids, hLM] at hit
  unfold eP at hit ⊢
  have HIT := Lib.hid hit
  have H := Lib.hid h
  have HR := Lib.hid hr
  have HLM := Lib.hid hLM
  have HIDL := Lib.hid hidl
  have hMl : M.length ≤ 5864062014805 := by omega
  clear hit h hr hids hLM hidl
  go_enter Try.func17, Try.ntmps17
  go_wp2_with (fail)
  refine HIT.out.mono ?_
  rintro e w1 ⟨v1, rfl, hown1, hb1⟩
  obtain ⟨IA, ic, rfl⟩ := own_slice hown1
  have hq1 := H.out.below hb1
  have hid := idleQ_calls w1 hq1 hlen
  have hll : (L.filter (fun x => !x.rdy && !x.tkn)).length = (M.filter Kn.idle).length := by simpa using congrArg List.length HIDL.out
  rw [HIDL.out, hll] at hid
  unfold eP at hid
  have HID := Lib.hid hid
  have HQ1 := Lib.hid hq1
  have HO1 := Lib.hid hown1
  have HB1 := Lib.hid hb1
  clear hq1 hid hown1 hb1 hll
  go_wp2_with (fail)
  refine HID.out.mono ?_
  rintro e w2 ⟨v2, rfl, hown2, hb2⟩
  obtain ⟨JA, jc, rfl⟩ := own_slice hown2
  have hq2 := HQ1.out.below hb2
  have hlc := len_calls w2 hq2
  rw [HLM.out] at hlc
  unfold eP at hlc
  have HLC := Lib.hid hlc
  have HO1b := Lib.hid (own_but HO1.out (But.of_below hb2 (fun _ => False)) (fun _ _ h => h))
  have HO2 := Lib.hid hown2
  have HB2 := Lib.hid (below_after HB1.out hb2)
  have HR2 := Lib.hid ((HR.out.below (below_after HB1.out hb2)).more (below_after HB1.out hb2).size)
  clear hq2 hlc hown2 hb2
  go_wp2_with (fail)
  refine HLC.out.mono ?_
  rintro e w3 ⟨rfl, hw3⟩
  subst hw3
  go_wp2_with (fail)
  go_loopw [7, 8] (fun n i wr => ∃ k : Nat, k ≤ M.length ∧ i = .int .i64 k ∧ n = .int .i64 (((M.take k).filter Kn.idle).length : Nat) ∧ Below w3.heap.size w3 wr) (fun _ i _ => M.length - (intOf i).toNat)
  case atStart => exact ⟨0, Nat.zero_le _, rfl, by simp, Below.refl _ _⟩
  case round =>
    obtain ⟨k, hk, rfl, rfl, hB⟩ := hrel
    by_cases hlt : k < M.length
    · have hkl : (k : Int) < M.length := by omega
      obtain ⟨WD, hWD⟩ : ∃ X, wr.drew = X := ⟨_, rfl⟩
      have hbD : Below w3.heap.size w3 WD := hWD ▸ hB.drew
      obtain ⟨ad, hA, _, e0, e1, e2, e3⟩ := kn_at (HR2.out.below hbD) hlt
      subst hA
      obtain ⟨id, hI, _, i0⟩ := ints_at (xs := M.map (·.id)) (k := k) (by have := (Reads.of_own HO1b.out).below hbD; rw [List.length_map]; exact this) (by rw [List.length_map]; exact hlt)
      subst hI
      rw [List.getElem_map] at i0
      have hT : M.take (k + 1) = M.take k ++ [M[k]] := List.take_succ_eq_append_getElem hlt
      have hnth := idle_nth hlt
      have hcl : ((M.take k).filter Kn.idle).length ≤ k := Nat.le_trans (List.length_filter_le _ _) (by rw [List.length_take]; omega)
      obtain ⟨x, hx⟩ : ∃ x, M[k] = x := ⟨_, rfl⟩
      rw [hx] at e0 e2 e3 i0 hT hnth
      have HBD := Lib.hid hbD
      have HT := Lib.hid hT
      have HNTH := Lib.hid hnth
      clear hx hT hnth e1 hB hbD
      go_wp2_with (fail)
      refine region_tail 9 (by kernel_rfl) (by kernel_rfl) ?_
      rw [hWD]
      simp only [List.take_succ_cons, List.take_zero, List.drop_succ_cons, List.drop_zero]
      repeat still_step
      refine wpStill_nil ?_
      cases hd : x.dirty with
      | true =>
        rw [hd] at e2
        have hcnt : ((M.take (k + 1)).filter Kn.idle).length = ((M.take k).filter Kn.idle).length := by
          rw [HT.out, List.filter_append, List.filter_cons_of_neg (by simp [Kn.idle, hd])]; simp
        have HC := Lib.hid hcnt
        clear hcnt hd
        go_wp2_with (fail)
        go_roundw
        case rel => exact ⟨k + 1, by omega, by go_num, by rw [HC.out], HBD.out⟩
        case measure => simp [intOf]; omega
      | false =>
        rw [hd] at e2
        cases ho : x.out with
        | true =>
          rw [ho] at e3
          have hcnt : ((M.take (k + 1)).filter Kn.idle).length = ((M.take k).filter Kn.idle).length := by
            rw [HT.out, List.filter_append, List.filter_cons_of_neg (by simp [Kn.idle, hd, ho])]; simp
          have HC := Lib.hid hcnt
          clear hcnt hd ho
          go_wp2_with (fail)
          go_roundw
          case rel => exact ⟨k + 1, by omega, by go_num, by rw [HC.out], HBD.out⟩
          case measure => simp [intOf]; omega
        | false =>
          rw [ho] at e3
          have hid : x.idle = true := by simp [Kn.idle, hd, ho]
          have hcnt : ((M.take (k + 1)).filter Kn.idle).length = ((M.take k).filter Kn.idle).length + 1 := by
            rw [HT.out, List.filter_append, List.filter_cons_of_pos hid]; simp
          have hn := HNTH.out hid
          obtain ⟨N, hN⟩ : ∃ N, ((M.take k).filter Kn.idle).length = N := ⟨_, rfl⟩
          rw [hN] at hn hcnt hcl
          rw [hN]
          have hnl : N < (M.filter Kn.idle).length := (List.getElem?_eq_some_iff.1 hn).1
          have hnl2 : ¬ (((M.filter Kn.idle).length : Nat) : Int) ≤ N := by omega
          have hnl4 : ¬ (M.filter Kn.idle).length ≤ N := by omega
          have hnl5 : decide ((M.filter Kn.idle).length ≤ N) = false := decide_eq_false hnl4
          have hnl3 : (N : Int) < ((M.filter Kn.idle).length : Nat) := by omega
          obtain ⟨jd, hJ, _, j0⟩ := ints_at (xs := (M.filter Kn.idle).map (·.id)) (k := N) (by have := (Reads.of_own HO2.out).below HBD.out; rw [List.length_map]; exact this) (by rw [List.length_map]; exact hnl)
          subst hJ
          have hjx : ((M.filter Kn.idle).map (·.id))[N]'(by rw [List.length_map]; exact hnl) = x.id := by
            rw [List.getElem_map, (List.getElem?_eq_some_iff.1 hn).2]
          rw [hjx] at j0
          have HC := Lib.hid hcnt
          clear hcnt hd ho hid hn hN hjx
          go_wp2_with (fail)
          go_quiet (fail)
          go_wp2
          go_roundw
          case rel => exact ⟨k + 1, by omega, by go_num, by rw [HC.out]; go_num, below_drewN HBD.out _⟩
          case measure => simp [intOf]; omega
    · obtain rfl : k = M.length := by omega
      rw [List.take_length]
      have HB3 := Lib.hid (below_after HB2.out hB)
      clear hB
      go_wp2
      go_ret
      exact ⟨rfl, HB3.out⟩
end Go.Proofs.Ytmcknfpohnobdaa
