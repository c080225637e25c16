/- QueueLoses: the law's walk. -/
import Derived.Test.YtmcknfpohnobdaaQ21
import Derived.Deep.Upon
import Derived.Deep.DeepCutAuto
import Derived.Deep.CutBlock
import Derived.Deep.QuietTactic
import Derived.Deep.RegionHeld3
import Derived.WalkSpells
namespace Go.Proofs.Ytmcknfpohnobdaa
set_option linter.unusedSimpArgs false
set_option linter.unusedVariables false
open Go.RowKit Go.MapKept Go.ChangeMaps Go.Maps

set_option maxRecDepth 100000 in
set_option maxHeartbeats 16000000 in
theorem lawLoses_calls (room : Int) (os : List OpQ) (EA : Option Addr) (ec : Nat) (w0 : World) (he : Reads w0 w0.heap.size 4 EA os.length (os.flatMap OpQ.cs)) (hel : ∀ e ∈ os, KeysIn w0 w0.heap.size e.A e.c e.keys ∧ wfI e.id) (hle : os.length * 48 ≤ 140737488351232) :
    Calls Try.prog 3 #[.int .i64 room, .slice EA os.length ec] w0 fun e w' => e = .returned (.bool true) ∧ Below w0.heap.size w0 w' := by
  obtain ⟨i0, hi0, hz0, hz1, hz2⟩ := info_parts infoKn
  have HE := Lib.hid he
  have HEL := Lib.hid hel
  have hle2 : os.length ≤ 2932031007317 := by omega
  clear he hel hle
  go_enter Try.func3, Try.ntmps3
  go_wp2_with (fail)
  refine (newQ_calls _ w0).mono ?_
  rintro e w1 ⟨p, bi, bw, rfl, hQ1, hB1, hO1⟩
  have hqs : QS w0 w1 ⟨p, bi, bw, roomQ room, 0, .slice none 0 0, [], []⟩ (.slice none 0 0) := ⟨hQ1, hO1, (fun i hi => by cases hi), hB1⟩
  have HQS := Lib.hid hqs
  clear hQ1 hB1 hO1 hqs
  unfold eP
  go_wp2_with (fail)
  refine (works_calls w1).mono ?_
  rintro e w2 ⟨rfl, hb2⟩
  have HQ2 := Lib.hid (HQS.out.below hb2)
  clear hb2
  go_wp2_with (fail)
  go_loopw [6, 7] (fun v i wr => ∃ (k : Nat) (T : Int) (lv : Value) (L : List Ent) (W : List (Key × Nat)) (M : List Kn), k ≤ os.length ∧ i = .int .i64 k ∧ LInv w0 wr p bi bw (roomQ room) k v T lv L W M) (fun _ i _ => os.length - (intOf i).toNat)
  case atStart => exact ⟨0, _, _, _, _, [], Nat.zero_le _, rfl, Nat.le_refl _, ⟨rfl, fun i h => by simp at h⟩, fun x hx => by simp at hx, World.ownsRow_nil _ _ _ _, HQ2.out⟩
  case round =>
    obtain ⟨k, T, lv, L, W, M, hk, rfl, hI⟩ := hrel
    obtain ⟨MA, mc, rfl⟩ := own_slice hI.row
    by_cases hlt : k < os.length
    · have hkl : (k : Int) < os.length := by omega
      obtain ⟨ad, rfl, hadb, k0, k1, k2, k3⟩ := opq_at4 (hI.qs.reads HE.out) hlt
      have hin := HEL.out os[k] (List.getElem_mem hlt)
      obtain ⟨x, hx⟩ : ∃ x, os[k] = x := ⟨_, rfl⟩
      rw [hx] at k0 k1 k2 k3 hin
      obtain ⟨on, kd, id, xA, xs, xc⟩ := x
      simp only at k0 k1 k2 k3 hin
      have HI := Lib.hid hI
      have HIN := Lib.hid hin
      have HX := Lib.hid hx
      clear hI hin hx
      go_wp2_with (fail)
      refine (pick_calls kd 5 _ (by omega) (by omega)).mono ?_
      rintro e w3 ⟨r, rfl, hr, rfl⟩
      have hi1 := HI.out.below ((Below.refl _ _).alloc (Nat.le_refl _) (.cells #[.int .i64 on, .int .i64 kd, .int .i64 id, .slice xA xs.length xc] 29))
      have hgo : ∀ i, OfQ p lv bi bw L W i → i ≠ wr.heap.size := fun i hi e => by have := QAt.lt HI.out.qs.qa hi; omega
      obtain ⟨g, hg⟩ : ∃ g, wr.heap.size = g := ⟨_, rfl⟩
      obtain ⟨WA, hWA⟩ : ∃ X, wr.alloc (.cells #[.int .i64 on, .int .i64 kd, .int .i64 id, .slice xA xs.length xc] 29) = X := ⟨_, rfl⟩
      have hblk : Blk WA g 29 #[.int .i64 on, .int .i64 kd, .int .i64 id, .slice xA xs.length xc] := by rw [← hWA, ← hg]; exact Blk.new _ _ _
      rw [hWA] at hi1
      rw [hg] at hgo
      have HI1 := Lib.hid hi1
      have HGO := Lib.hid hgo
      have HBL := Lib.hid hblk
      clear hi1 hgo hblk k0 k1 k2 k3 hadb
      rw [hWA, hg]
      clear hWA
      go_upto_block 2 with (fail)
      go_cut [6] (fun v w' => ∃ (T' : Int) (lv' : Value) (L' : List Ent) (W' : List (Key × Nat)) (M' : List Kn), LInv w0 w' p bi bw (roomQ room) (k + 1) v T' lv' L' W' M')
      case first =>
        have hL := HI.out.len
        obtain rfl | rfl | rfl | rfl | rfl : r = 0 ∨ r = 1 ∨ r = 2 ∨ r = 3 ∨ r = 4 := by omega
        · as_aux_lemma =>
            have hbD : Below WA.heap.size WA WA.drew := (Below.refl _ _).drew
            have hID := HI1.out.below hbD
            have hblD := HBL.out.but (But.of_below hbD (fun _ => False)) (fun h => h)
            have c2 : WA.cell? ⟨g, 2, none⟩ = some (.int .i64 id) := HBL.out.cell 2
            have c3 : WA.cell? ⟨g, 3, none⟩ = some (.slice xA xs.length xc) := HBL.out.cell 3
            have d2 : WA.drew.cell? ⟨g, 2, none⟩ = some (.int .i64 id) := hblD.cell 2
            have d3 : WA.drew.cell? ⟨g, 3, none⟩ = some (.slice xA xs.length xc) := hblD.cell 3
            have hcp := copyKeys_calls xs xA xc w0.heap.size WA.drew (HIN.out.1.1.below hID.qs.bel) hID.qs.bel.size (by have := HIN.out.1.2.2; omega)
            have HCP := Lib.hid hcp
            have HID := Lib.hid hID
            have HBLD := Lib.hid hblD
            have hpn : putN L (roomQ room) id = 0 ∨ putN L (roomQ room) id = 11 ∨ putN L (roomQ room) id = 20 := by
              unfold putN; split
              · exact .inr (.inl rfl)
              · split
                · exact .inr (.inr rfl)
                · exact .inl rfl
            have HPN := Lib.hid hpn
            clear hcp hID hblD hbD hpn
            go_upto_region 15 with (fail)
            go_cut [61] (fun b w' => ∃ (T' : Int) (lv' : Value) (L' : List Ent) (W' : List (Key × Nat)), b = .bool (decide (putN L (roomQ room) id = 0)) ∧ PutQ WA w' p (roomQ room) lv bi bw L W id xs L' T' lv' W')
            case first =>
              have put_then : ∀ (n : Int) (E : Value), putN L (roomQ room) id = n → errV n = E → ∀ (w4 : World) (CA : Option Addr) (cc : Nat), w4.ownsRow WA.drew.heap.size 57 2 (.slice CA xs.length cc) xs.length (keysC xs) → Below WA.drew.heap.size WA.drew w4 →
                  Calls Try.prog 8 #[.pointer (some ⟨p, 0, none⟩), .int .i64 id, .slice CA xs.length cc] w4 fun e w' => ∃ L' turns' lv' W', e = .returned E ∧ Hid (PutQ WA w' p (roomQ room) lv bi bw L W id xs L' turns' lv' W') ∧ w'.cell? ⟨g, 2, none⟩ = some (.int .i64 id) ∧ w'.cell? ⟨g, 3, none⟩ = some (.slice xA xs.length xc) := by
                intro n E hn hE w4 CA cc hown4 hb4
                have hq4 := (HID.out.below hb4).qs
                have hp := put_calls id HIN.out.2 xs CA cc w4 hq4.qa (fun w' hb => Reads.of_own (own_but hown4 hb (fun q hq hof => by
                  have h1 := own_base hown4 hq
                  have h2 := QAt.lt HID.out.qs.qa hof
                  omega))) (fun hA => by
                    subst hA
                    obtain ⟨h1, h2⟩ := own_nil hown4
                    exact ⟨List.eq_nil_of_length_eq_zero h1, h2⟩) (by show L.length < _; omega) (by have := HIN.out.1.2.2; omega)
                rw [hn, hE] at hp
                unfold eP at hp
                refine hp.mono ?_
                rintro e w5 ⟨L', t', lv', W', rfl, hpq⟩
                have hb5 := (But.of_below (Below.trans ((Below.refl _ _).drew (a := WA)) hb4) (OfQ p lv bi bw L W)).trans hpq.but (fun _ _ h => h)
                have hbl5 := HBL.out.but hb5 (fun h => HGO.out g h rfl)
                exact ⟨L', t', lv', W', rfl, Lib.hid ⟨hpq.q, fun h => hpq.no h, fun h => hpq.yes h, hb5, fun i hi => (hpq.new i hi).imp (fun h => h) (fun h => Nat.le_trans hb4.size h)⟩, hbl5.cell 2, hbl5.cell 3⟩
              have PUT := Lib.hid put_then
              clear put_then
              obtain hn | hn | hn := HPN.out
              · have HN := Lib.hid hn
                clear hn
                go_region_held3 (fun w' => w'.cell? ⟨g, 2, none⟩ = some (.int .i64 id) ∧ w'.cell? ⟨g, 3, none⟩ = some (.slice xA xs.length xc))
                  (first | go_keep | fail)
                  (first
                    | (go_at_call 9; refine HCP.out.mono ?_; rintro e w4 ⟨v4, rfl, hown4, hb4⟩; obtain ⟨CA, cc, rfl⟩ := own_slice hown4; have q2 : w4.cell? ⟨g, 2, none⟩ = some (.int .i64 id) := cell_below (w := WA.drew) hb4 d2; have q3 : w4.cell? ⟨g, 3, none⟩ = some (.slice xA xs.length xc) := cell_below (w := WA.drew) hb4 d3; have HP := Lib.hid (PUT.out 0 .nilIface HN.out rfl w4 CA cc hown4 hb4); clear hown4 hb4)
                    | (go_at_call 8; refine HP.out.mono ?_; rintro e w5 ⟨L', t', lv', W', rfl, HPQ, r2, r3⟩))
                go_wp2
                go_meet
                case rel => exact ⟨_, _, _, _, by rw [HN.out]; rfl, HPQ.out⟩
              · have HN := Lib.hid hn
                clear hn
                go_region_held3 (fun w' => w'.cell? ⟨g, 2, none⟩ = some (.int .i64 id) ∧ w'.cell? ⟨g, 3, none⟩ = some (.slice xA xs.length xc))
                  (first | go_keep | fail)
                  (first
                    | (go_at_call 9; refine HCP.out.mono ?_; rintro e w4 ⟨v4, rfl, hown4, hb4⟩; obtain ⟨CA, cc, rfl⟩ := own_slice hown4; have q2 : w4.cell? ⟨g, 2, none⟩ = some (.int .i64 id) := cell_below (w := WA.drew) hb4 d2; have q3 : w4.cell? ⟨g, 3, none⟩ = some (.slice xA xs.length xc) := cell_below (w := WA.drew) hb4 d3; have HP := Lib.hid (PUT.out 11 (.iface 62 (.int .i64 11)) HN.out rfl w4 CA cc hown4 hb4); clear hown4 hb4)
                    | (go_at_call 8; refine HP.out.mono ?_; rintro e w5 ⟨L', t', lv', W', rfl, HPQ, r2, r3⟩))
                go_wp2
                go_meet
                case rel => exact ⟨_, _, _, _, by rw [HN.out]; rfl, HPQ.out⟩
              · have HN := Lib.hid hn
                clear hn
                go_region_held3 (fun w' => w'.cell? ⟨g, 2, none⟩ = some (.int .i64 id) ∧ w'.cell? ⟨g, 3, none⟩ = some (.slice xA xs.length xc))
                  (first | go_keep | fail)
                  (first
                    | (go_at_call 9; refine HCP.out.mono ?_; rintro e w4 ⟨v4, rfl, hown4, hb4⟩; obtain ⟨CA, cc, rfl⟩ := own_slice hown4; have q2 : w4.cell? ⟨g, 2, none⟩ = some (.int .i64 id) := cell_below (w := WA.drew) hb4 d2; have q3 : w4.cell? ⟨g, 3, none⟩ = some (.slice xA xs.length xc) := cell_below (w := WA.drew) hb4 d3; have HP := Lib.hid (PUT.out 20 (.iface 62 (.int .i64 20)) HN.out rfl w4 CA cc hown4 hb4); clear hown4 hb4)
                    | (go_at_call 8; refine HP.out.mono ?_; rintro e w5 ⟨L', t', lv', W', rfl, HPQ, r2, r3⟩))
                go_wp2
                go_meet
                case rel => exact ⟨_, _, _, _, by rw [HN.out]; rfl, HPQ.out⟩
            case rest =>
              obtain ⟨T', lv', L', W', rfl, hpq⟩ := hcut
              obtain ⟨hrow, hqs⟩ := HI1.out.turn hpq.but hpq.q hpq.new
              have hbl := HBL.out.but hpq.but (fun h => HGO.out g h rfl)
              have c2 : wc.cell? ⟨g, 2, none⟩ = some (.int .i64 id) := hbl.cell 2
              have c3 : wc.cell? ⟨g, 3, none⟩ = some (.slice xA xs.length xc) := hbl.cell 3
              have hfc := find_calls M MA mc id wc.heap.size wc (Reads.of_own hrow) (by rw [HI.out.ml]; omega)
              have hml : (M.length : Int) = L.length := by rw [HI.out.ml]
              have hmb : M.length ≤ 2932031007317 := by rw [HI.out.ml]; omega
              have HFC := Lib.hid hfc
              have HROW := Lib.hid hrow
              have HQS' := Lib.hid hqs
              have HPQ := Lib.hid hpq
              have HML := Lib.hid hml
              clear hfc hrow hqs hpq hbl hml
              obtain hn | hn | hn := HPN.out
              · have hd : decide (putN L (roomQ room) id = 0) = true := decide_eq_true hn
                rw [hd]
                have hno : (∀ e ∈ L, e.id ≠ id) ∧ (L.length : Int) < room := by
                  unfold putN at hn
                  split at hn
                  · cases hn
                  · rename_i h1
                    split at hn
                    · cases hn
                    · rename_i h2
                      refine ⟨fun e he q => h1 ⟨e, he, q⟩, ?_⟩
                      unfold roomQ at h2
                      split at h2 <;> omega
                have HN := Lib.hid hn
                have HNO := Lib.hid hno.1
                have hroom : (M.length : Int) < room := by rw [HML.out]; exact hno.2
                clear hd hn hno
                go_wp2_with (fail)
                refine HFC.out.mono ?_
                rintro e wc ⟨fr, rfl, hf, rfl⟩
                obtain rfl := find_no HI.out.all hf HNO.out
                clear hf
                go_wp2_with ((at_builtin; refine wpList_append_wide_at _ rfl (.tmp 73) (.tmp 79) 26 rfl w0.heap.size 37 i0 _ 4 40 Try.underlying26 hi0 hz0 hz1 hz2 rfl (by decide) (.slice MA M.length mc) M.length (M.flatMap Kn.cs) rfl (HROW.out.alloc _) ⟨wc.heap.size, 0, none⟩ 1 1 [.int .i64 id, .slice xA xs.length xc, .bool false, .bool false] rfl rfl ?_ ?_ ?_ ?_ ?_ ?_); exact new_cells wc 37 [.int .i64 id, .slice xA xs.length xc, .bool false, .bool false]; (simp [Value.oneCell']); (unfold maxLen; omega); (omega); (have := HQS'.out.bel.size; simp; omega); intro v6 w6 hown6 hg6 _ hat6)
                have hfin : LInv w0 w6 p bi bw (roomQ room) (k + 1) v6 T' lv' L' W' (M ++ [⟨id, xA, xs, xc, false, false⟩]) := by
                  obtain ⟨y, rfl, y1, y2, y3, y4, y5⟩ := HPQ.out.yes HN.out
                  refine ⟨by simp; omega, HI.out.all.snoc ⟨y1.symm, y2.symm, by simp [y3, y4], by simp [y4], by simp [y3]⟩, fun z hz => ?_, ?_, LInv.own_grow HQS'.out hg6 hat6 (fun i hi => own_lt hown6 hi)⟩
                  · rcases List.mem_append.1 hz with hz | hz
                    · exact HI.out.kin z hz
                    · rw [List.mem_singleton.1 hz]; exact HIN.out.1
                  · rw [List.length_append, List.flatMap_append]
                    exact hown6
                have HFIN := Lib.hid hfin
                clear hfin hown6 hg6 hat6
                go_wp2_with (fail)
                go_meet
                case rel => exact ⟨_, _, _, _, _, HFIN.out⟩
              · have hd : decide (putN L (roomQ room) id = 0) = false := decide_eq_false (by rw [hn]; decide)
                rw [hd]
                have hyes : ∃ e ∈ L, e.id = id := by
                  unfold putN at hn
                  split at hn
                  · assumption
                  · split at hn <;> cases hn
                have HN := Lib.hid hn
                have HYES := Lib.hid hyes
                clear hd hn hyes
                go_wp2_with (fail)
                refine HFC.out.mono ?_
                rintro e wc ⟨fr, rfl, hf, rfl⟩
                have hf0 : 0 ≤ fr := by
                  rcases find_all HI.out.all hf with ⟨_, h⟩ | ⟨j, _, _, rfl, _⟩
                  · obtain ⟨e, he, q⟩ := HYES.out
                    exact absurd q (h e he)
                  · omega
                clear hf
                go_wp2_with (fail)
                go_meet
                case rel =>
                  obtain rfl := HPQ.out.no (by rw [HN.out]; decide)
                  exact ⟨_, _, _, _, M, by omega, HI.out.all, HI.out.kin, HROW.out, HQS'.out⟩
              · have hd : decide (putN L (roomQ room) id = 0) = false := decide_eq_false (by rw [hn]; decide)
                rw [hd]
                have hfull : room ≤ (M.length : Int) := by
                  rw [HML.out]
                  unfold putN at hn
                  split at hn
                  · cases hn
                  · split at hn
                    · rename_i h2
                      unfold roomQ at h2
                      split at h2 <;> omega
                    · cases hn
                have HN := Lib.hid hn
                clear hd hn
                go_wp2_with (fail)
                refine HFC.out.mono ?_
                rintro e wc ⟨fr, rfl, hf, rfl⟩
                have hfr : fr = -1 ∨ 0 ≤ fr := by
                  rcases find_all HI.out.all hf with ⟨h, _⟩ | ⟨j, _, _, rfl, _⟩
                  · exact .inl h
                  · exact .inr (by omega)
                clear hf
                rcases hfr with rfl | hfr
                all_goals
                  go_wp2_with (fail)
                  go_meet
                  case rel =>
                    obtain rfl := HPQ.out.no (by rw [HN.out]; decide)
                    exact ⟨_, _, _, _, M, by omega, HI.out.all, HI.out.kin, HROW.out, HQS'.out⟩
        · as_aux_lemma =>
            have c3 : WA.cell? ⟨g, 3, none⟩ = some (.slice xA xs.length xc) := HBL.out.cell 3
            have htc := touch_calls xs xA xc WA (show QAt WA p (roomQ room) T lv bi bw L W from HI1.out.qs.qa) (HI1.out.qs.put_reads HIN.out.1.1) (by omega) (by have := HIN.out.1.2.2; omega)
            unfold eP at htc
            have hfl : freshBy L (fun e => meets e.keys xs) ≤ L.length := List.length_filter_le _ _
            obtain ⟨F, hF⟩ : ∃ F, freshBy L (fun e => meets e.keys xs) = F := ⟨_, rfl⟩
            rw [hF] at htc hfl
            have hfm : (F : Int) ≤ M.length := by have := HI.out.ml; omega
            have HTC := Lib.hid htc
            have hmb : M.length ≤ 2932031007317 := by rw [HI.out.ml]; omega
            clear htc hF hfl
            go_wp2_with (fail)
            refine HTC.out.mono ?_
            rintro e wt ⟨rfl, hq, hb⟩
            obtain ⟨hrow, hqs⟩ := HI1.out.turn hb hq (fun i hi => .inl (ofq_core (turnBy_core L _) hi))
            have hbl := HBL.out.but hb (fun h => HGO.out g h rfl)
            have hall := HI.out.all.touched xs
            have hlen2 : (turnBy L (fun e => meets e.keys xs)).length = L.length := by unfold turnBy; simp
            obtain ⟨L2, hL2⟩ : ∃ L2, turnBy L (fun e => meets e.keys xs) = L2 := ⟨_, rfl⟩
            rw [hL2] at hqs hall hlen2
            have hl2 : L2.length ≤ k := by omega
            have hgm : (Value.slice MA M.length mc).ownBlock ≠ some g := fun e => by have h1 := own_lt HI.out.row e; omega
            have HROW := Lib.hid hrow
            have HQS' := Lib.hid hqs
            have HALL := Lib.hid hall
            have HBL2 := Lib.hid hbl
            have HGM := Lib.hid hgm
            clear hq hb hrow hqs hbl hall hL2 hlen2 hgm
            go_wp2_with (fail)
            go_loopw [10] (fun i wr => ∃ j : Nat, j ≤ M.length ∧ i = .int .i64 j ∧ wr.ownsRow w0.heap.size 37 4 (.slice MA M.length mc) M.length ((touchTo M xs j).flatMap Kn.cs) ∧ QS w0 wr ⟨p, bi, bw, roomQ room, T, lv, L2, W⟩ (.slice MA M.length mc) ∧ Blk wr g 29 #[.int .i64 on, .int .i64 kd, .int .i64 id, .slice xA xs.length xc]) (fun i _ => M.length - (intOf i).toNat)
            case atStart => exact ⟨0, Nat.zero_le _, rfl, by rw [touchTo_zero]; exact HROW.out, HQS'.out, HBL2.out⟩
            case round =>
              obtain ⟨j, hj, rfl, hrow, hqs, hbl⟩ := hrel
              by_cases hjl : j < M.length
              · have hjm : (j : Int) < M.length := by omega
                obtain ⟨gm, rfl⟩ := own_at0 hrow (by omega)
                have htl := touchTo_len M xs j
                have hjt : j < (touchTo M xs j).length := by omega
                have hrow0 := hrow
                rw [← htl] at hrow0
                obtain ⟨k0, k1, k2, k3⟩ := kn_at0 hrow0 hjt
                have kf2 : wr.frozen? ⟨gm, j * 4 + 2, none⟩ = false := own_frozen hrow (j * 4 + 2)
                clear hrow0
                rw [touchTo_get M xs hjl hjt] at k0 k1 k2 k3
                have hkin := HI.out.kin M[j] (List.getElem_mem hjl)
                have hts := touchTo_set M xs hjl
                have hcs : (M[j].touch xs).cs = M[j].cs.set 2 (.bool (M[j].dirty || meets M[j].keys xs)) := rfl
                have hbn : ∀ n, Below wr.heap.size wr (wr.drewN n) := fun n => below_drewN (Below.refl _ _) n
                have hset : ∀ n, ((wr.drewN n).setCell ⟨gm, j * 4 + 2, none⟩ (.bool (M[j].dirty || meets M[j].keys xs))).ownsRow w0.heap.size 37 4 (.slice (some ⟨gm, 0, none⟩) M.length mc) M.length ((touchTo M xs (j + 1)).flatMap Kn.cs) ∧ QS w0 ((wr.drewN n).setCell ⟨gm, j * 4 + 2, none⟩ (.bool (M[j].dirty || meets M[j].keys xs))) ⟨p, bi, bw, roomQ room, T, lv, L2, W⟩ (.slice (some ⟨gm, 0, none⟩) M.length mc) ∧ Blk ((wr.drewN n).setCell ⟨gm, j * 4 + 2, none⟩ (.bool (M[j].dirty || meets M[j].keys xs))) g 29 #[.int .i64 on, .int .i64 kd, .int .i64 id, .slice xA xs.length xc] := fun n => by
                  have hrn := own_but hrow (But.of_below (hbn n) (fun _ => False)) (fun _ _ h => h)
                  rw [← htl] at hrn
                  have h1 := own_kn hrn hjt (r := 2) (.bool (M[j].dirty || meets M[j].keys xs)) (M[j].touch xs) (by omega) (by rw [touchTo_get M xs hjl hjt]; rfl)
                  rw [hts, htl] at h1
                  have hb1 := But.set_own (wr.drewN n) (g := gm) (k := j * 4 + 2) (n := M.length) (c := mc) (.bool (M[j].dirty || meets M[j].keys xs))
                  exact ⟨h1, (hqs.below (hbn n)).grow hb1 (fun i hi => .inl hi), (hbl.but (But.of_below (hbn n) (fun _ => False)) (fun h => h)).but hb1 HGM.out⟩
                obtain ⟨y, hy⟩ : ∃ y, M[j] = y := ⟨_, rfl⟩
                rw [hy] at k0 k1 k2 k3 hkin hset
                obtain ⟨yid, yA, yk, yc, yd, yo⟩ := y
                simp only at k0 k1 k2 k3 hkin hset
                have c3 : wr.cell? ⟨g, 3, none⟩ = some (.slice xA xs.length xc) := hbl.cell 3
                have hmt := fun n => meets_draws yk xs yA xA yc xc (wr.drewN n) ((hqs.reads hkin.1).below (hbn n)) ((hqs.reads HIN.out.1.1).below (hbn n)) (by have := hkin.2.2; omega) (by have := HIN.out.1.2.2; omega)
                have hmt2 : ∀ n, Calls Try.prog 12 #[.slice yA yk.length yc, .slice xA xs.length xc] (wr.drewN n) fun e w' => e = .returned (.bool (meets yk xs)) ∧ ∃ m, w' = wr.drewN m := fun n => (hmt n).mono (fun e w' h => ⟨h.1, by obtain ⟨m, hm⟩ := h.2; exact ⟨n + m, by rw [hm]; simp [World.drewN, Nat.add_assoc]⟩⟩)
                have HMT := Lib.hid hmt2
                have HSET := Lib.hid hset
                clear hmt hmt2 hset hrow hqs hbl hbn hts htl hjt hkin hy
                cases yd with
                | true =>
                  go_wp2_with (fail)
                  refine region_dtail 19 (by kernel_rfl) (by kernel_rfl) ?_
                  simp only [List.take_succ_cons, List.take_zero, List.drop_succ_cons, List.drop_zero]
                  repeat go_big_quiet_step (fail)
                  refine wpQuiet_nil ?_
                  rintro _ ⟨nq, rfl⟩
                  go_wp2_with (fail)
                  go_roundw
                  case rel => exact ⟨j + 1, by omega, by go_num, by have := HSET.out nq; simpa using this⟩
                  case measure => simp [intOf]; omega
                | false =>
                  go_wp2_with (fail)
                  refine region_dtail 19 (by kernel_rfl) (by kernel_rfl) ?_
                  simp only [List.take_succ_cons, List.take_zero, List.drop_succ_cons, List.drop_zero]
                  repeat go_big_quiet_step ((go_at_call 12; exact HMT.out _))
                  refine wpQuiet_nil ?_
                  rintro _ ⟨nq, rfl⟩
                  go_wp2_with (fail)
                  go_roundw
                  case rel => exact ⟨j + 1, by omega, by go_num, by have := HSET.out nq; simpa using this⟩
                  case measure => simp [intOf]; omega
              · obtain rfl : j = M.length := by omega
                rw [touchTo_all] at hrow
                have hfin : LInv w0 wr p bi bw (roomQ room) (k + 1) (.slice MA M.length mc) T lv L2 W (M.map (Kn.touch xs)) := by
                  refine ⟨by omega, HALL.out, fun z hz => ?_, by rw [List.length_map]; exact hrow, hqs⟩
                  obtain ⟨y, hy, rfl⟩ := List.mem_map.1 hz
                  exact HI.out.kin y hy
                have HFIN := Lib.hid hfin
                clear hfin hrow hqs hbl
                go_wp2_with (fail)
                go_meet
                case rel => exact ⟨_, _, _, _, _, HFIN.out⟩
        · as_aux_lemma =>
            have hmb : M.length ≤ 2932031007317 := by rw [HI.out.ml]; omega
            have htk := take_calls WA (show QAt WA p (roomQ room) T lv bi bw L W from HI1.out.qs.qa) (by omega)
            unfold eP at htk
            have HTK := Lib.hid htk
            clear htk
            go_wp2_with (fail)
            refine HTK.out.mono ?_
            rintro e wt ⟨L', n, ok, rfl, htq, hcore, hq, hb⟩
            obtain ⟨hrow, hqs⟩ := HI1.out.turn hb hq (fun i hi => .inl (ofq_core hcore hi))
            have hfc := find_calls M MA mc n wt.heap.size wt (Reads.of_own hrow) (by omega)
            have HFC := Lib.hid hfc
            have HROW := Lib.hid hrow
            have HQS' := Lib.hid hqs
            have HTQ := Lib.hid htq
            clear hq hb hrow hqs hfc htq hcore
            go_wp2_with (fail)
            refine HFC.out.mono ?_
            rintro e wt ⟨fr, rfl, hf, rfl⟩
            have hF := Lib.hid hf
            clear hf
            rcases HTQ.out with ⟨rfl, rfl, rfl, _⟩ | ⟨j, hj, rfl, hr, _, rfl, rfl⟩
            · have hfin : LInv w0 wt p bi bw (roomQ room) (k + 1) (.slice MA M.length mc) T lv L' W M := ⟨by omega, HI.out.all, HI.out.kin, HROW.out, HQS'.out⟩
              have HFIN := Lib.hid hfin
              clear hfin
              go_wp2_with (fail)
              go_meet
              case rel => exact ⟨_, _, _, _, _, HFIN.out⟩
            · obtain ⟨hm, rfl, hkr⟩ := find_at HI.out.all HI.out.idn hF.out hj rfl
              obtain ⟨gm, rfl⟩ := own_at0 HROW.out (by omega)
              obtain ⟨h1, h2, hkr'⟩ := hkr.take hr
              obtain ⟨k0, k1, k2, k3⟩ := kn_at0 HROW.out hm
              rw [h1] at k2
              rw [h2] at k3
              have kf2 : wt.frozen? ⟨gm, j * 4 + 2, none⟩ = false := own_frozen HROW.out (j * 4 + 2)
              have kf3 : wt.frozen? ⟨gm, j * 4 + 3, none⟩ = false := own_frozen HROW.out (j * 4 + 3)
              have hown := own_taken HROW.out hm
              have hbt := (But.set_own wt (g := gm) (k := j * 4 + 2) (n := M.length) (c := mc) (.bool false)).setCell (p := ⟨gm, j * 4 + 3, none⟩) (fun _ => rfl) (.bool true)
              have hfin : LInv w0 ((wt.setCell ⟨gm, j * 4 + 2, none⟩ (.bool false)).setCell ⟨gm, j * 4 + 3, none⟩ (.bool true)) p bi bw (roomQ room) (k + 1) (.slice (some ⟨gm, 0, none⟩) M.length mc) T lv (L.set j { L[j] with rdy := false, tkn := true, tch := false }) W (M.set j { M[j] with dirty := false, out := true }) :=
                ⟨by simp; omega, All2.set HI.out.all hkr', kin_set HI.out.kin hm ⟨rfl, rfl, rfl⟩, by rw [List.length_set]; exact hown, HQS'.out.grow hbt (fun i hi => .inl hi)⟩
              have HFIN := Lib.hid hfin
              have hjm : (j : Int) < M.length := by omega
              clear hfin hown hbt hkr hkr' h1 h2 hr
              go_wp2_with (fail)
              go_meet
              case rel => exact ⟨_, _, _, _, _, HFIN.out⟩
        · as_aux_lemma =>
            have hmb : M.length ≤ 2932031007317 := by rw [HI.out.ml]; omega
            have c2 : WA.cell? ⟨g, 2, none⟩ = some (.int .i64 id) := HBL.out.cell 2
            have hfc := find_calls M MA mc id WA.heap.size WA (Reads.of_own HI1.out.row) (by omega)
            have HFC := Lib.hid hfc
            clear hfc
            go_wp2_with (fail)
            refine HFC.out.mono ?_
            rintro e WA ⟨fr, rfl, hf, rfl⟩
            have hF := Lib.hid hf
            have hbk := back_calls id HIN.out.2 WA (show QAt WA p (roomQ room) T lv bi bw L W from HI1.out.qs.qa)
            unfold eP at hbk
            have HBK := Lib.hid hbk
            clear hf hbk
            go_wp2_with (fail)
            refine HBK.out.mono ?_
            rintro e wt ⟨L', ok, rfl, hbq, hcore, hq, hb⟩
            obtain ⟨hrow, hqs⟩ := HI1.out.turn hb hq (fun i hi => .inl (ofq_core hcore hi))
            have HROW := Lib.hid hrow
            have HQS' := Lib.hid hqs
            have HBQ := Lib.hid hbq
            clear hq hb hrow hqs hbq hcore c2
            rcases HBQ.out with ⟨rfl, rfl, hno⟩ | ⟨j, hj, hid, hr, rfl, rfl⟩
            · rcases find_all HI.out.all hF.out with ⟨rfl, _⟩ | ⟨j, hj, hm, rfl, hid, hkr⟩
              · have hfin : LInv w0 wt p bi bw (roomQ room) (k + 1) (.slice MA M.length mc) T lv L' W M := ⟨by omega, HI.out.all, HI.out.kin, HROW.out, HQS'.out⟩
                have HFIN := Lib.hid hfin
                clear hfin hno
                go_wp2_with (fail)
                go_meet
                case rel => exact ⟨_, _, _, _, _, HFIN.out⟩
              · obtain ⟨gm, rfl⟩ := own_at0 HROW.out (by omega)
                obtain ⟨h1, hkr'⟩ := hkr.stay (hno _ (List.getElem_mem hj) hid)
                obtain ⟨k0, k1, k2, k3⟩ := kn_at0 HROW.out hm
                rw [h1] at k3
                have kf3 : wt.frozen? ⟨gm, j * 4 + 3, none⟩ = false := own_frozen HROW.out (j * 4 + 3)
                have hown := own_out HROW.out hm
                have hbt := But.set_own wt (g := gm) (k := j * 4 + 3) (n := M.length) (c := mc) (.bool false)
                have hall := All2.set (k := j) HI.out.all hkr'
                rw [List.set_getElem_self] at hall
                have hfin : LInv w0 (wt.setCell ⟨gm, j * 4 + 3, none⟩ (.bool false)) p bi bw (roomQ room) (k + 1) (.slice (some ⟨gm, 0, none⟩) M.length mc) T lv L' W (M.set j { M[j] with out := false }) :=
                  ⟨by omega, hall, kin_set HI.out.kin hm ⟨rfl, rfl, rfl⟩, by rw [List.length_set]; exact hown, HQS'.out.grow hbt (fun i hi => .inl hi)⟩
                have HFIN := Lib.hid hfin
                have hjm : (j : Int) < M.length := by omega
                clear hfin hown hbt hkr hkr' h1 hall hno hid
                go_wp2_with (fail)
                go_meet
                case rel => exact ⟨_, _, _, _, _, HFIN.out⟩
            · obtain ⟨hm, rfl, hkr⟩ := find_at HI.out.all HI.out.idn hF.out hj hid
              obtain ⟨gm, rfl⟩ := own_at0 HROW.out (by omega)
              obtain ⟨h1, h2, hkr'⟩ := hkr.back hr
              obtain ⟨k0, k1, k2, k3⟩ := kn_at0 HROW.out hm
              rw [h2] at k2
              rw [h1] at k3
              have kf3 : wt.frozen? ⟨gm, j * 4 + 3, none⟩ = false := own_frozen HROW.out (j * 4 + 3)
              have hown := own_out HROW.out hm
              have hbt := But.set_own wt (g := gm) (k := j * 4 + 3) (n := M.length) (c := mc) (.bool false)
              have hfin : LInv w0 (wt.setCell ⟨gm, j * 4 + 3, none⟩ (.bool false)) p bi bw (roomQ room) (k + 1) (.slice (some ⟨gm, 0, none⟩) M.length mc) T lv (L.set j { L[j] with rdy := L[j].tch, tkn := false }) W (M.set j { M[j] with out := false }) :=
                ⟨by simp; omega, All2.set HI.out.all hkr', kin_set HI.out.kin hm ⟨rfl, rfl, rfl⟩, by rw [List.length_set]; exact hown, HQS'.out.grow hbt (fun i hi => .inl hi)⟩
              have HFIN := Lib.hid hfin
              have hjm : (j : Int) < M.length := by omega
              obtain ⟨tc, htc⟩ : ∃ b, L[j].tch = b := ⟨_, rfl⟩
              rw [htc] at k2
              rw [htc]
              clear hfin hown hbt hkr hkr' h1 h2 hr hid htc
              cases tc
              all_goals
                go_wp2_with (fail)
                go_meet
                case rel => exact ⟨_, _, _, _, _, HFIN.out⟩
        · as_aux_lemma =>
            have hmb : M.length ≤ 2932031007317 := by rw [HI.out.ml]; omega
            have c2 : WA.cell? ⟨g, 2, none⟩ = some (.int .i64 id) := HBL.out.cell 2
            have hfc := find_calls M MA mc id WA.heap.size WA (Reads.of_own HI1.out.row) (by omega)
            have HFC := Lib.hid hfc
            clear hfc
            go_wp2_with (fail)
            refine HFC.out.mono ?_
            rintro e WA ⟨fr, rfl, hf, rfl⟩
            have hF := Lib.hid hf
            have hrm := remove_calls id HIN.out.2 WA (show QAt WA p (roomQ room) T lv bi bw L W from HI1.out.qs.qa) (by omega)
            unfold eP at hrm
            have HRM := Lib.hid hrm
            clear hf hrm
            go_wp2_with (fail)
            refine HRM.out.mono ?_
            rintro e wt ⟨L', lv', W', ok, rfl, hrq, hq, hb, hn⟩
            obtain ⟨hrow, hqs⟩ := HI1.out.turn hb hq hn
            have hwo := without_calls M MA mc fr wt (Reads.of_own hrow) (by omega)
            have HWO := Lib.hid hwo
            have HROW := Lib.hid hrow
            have HQS' := Lib.hid hqs
            have HRQ := Lib.hid hrq
            clear hq hb hrow hqs hrq hn hwo c2
            rcases HRQ.out with ⟨rfl, rfl, hno⟩ | ⟨j, hj, hid, rfl, rfl⟩
            · obtain rfl := find_no HI.out.all hF.out hno
              clear hno
              go_wp2_with (fail)
              refine HWO.out.mono ?_
              rintro e w5 ⟨v5, rfl, hown, hb5⟩
              rw [wo_none] at hown
              have hfin : LInv w0 w5 p bi bw (roomQ room) (k + 1) v5 T lv' L' W' M := ⟨by omega, HI.out.all, HI.out.kin, own_weak hown HQS'.out.bel.size, HQS'.out.anew hb5 (fun i hi => ⟨own_base hown hi, own_lt hown hi⟩)⟩
              have HFIN := Lib.hid hfin
              clear hfin hown hb5
              go_wp2_with (fail)
              go_meet
              case rel => exact ⟨_, _, _, _, _, HFIN.out⟩
            · obtain ⟨hm, rfl, hkr⟩ := find_at HI.out.all HI.out.idn hF.out hj hid
              clear hid hkr
              go_wp2_with (fail)
              refine HWO.out.mono ?_
              rintro e w5 ⟨v5, rfl, hown, hb5⟩
              rw [wo_at hm] at hown
              have hfin : LInv w0 w5 p bi bw (roomQ room) (k + 1) v5 T lv' (L.eraseIdx j) W' (M.eraseIdx j) := ⟨by rw [List.length_eraseIdx, if_pos hj]; omega, HI.out.all.erase j, fun z hz => HI.out.kin z (List.mem_of_mem_eraseIdx hz), own_weak hown HQS'.out.bel.size, HQS'.out.anew hb5 (fun i hi => ⟨own_base hown hi, own_lt hown hi⟩)⟩
              have HFIN := Lib.hid hfin
              clear hfin hown hb5
              go_wp2_with (fail)
              go_meet
              case rel => exact ⟨_, _, _, _, _, HFIN.out⟩
      case rest =>
        obtain ⟨T', lv', L', W', M', hI⟩ := hcut
        obtain ⟨MA', mc', rfl⟩ := own_slice hI.row
        have hh := holds_calls M' MA' mc' wc (show QAt wc p (roomQ room) T' lv' bi bw L' W' from hI.qs.qa) (hI.reads rfl) (by have := hI.len; omega) hI.all.ids hI.all.idles
        unfold eP at hh
        have HH := Lib.hid hh
        have HI2 := Lib.hid hI
        clear hh hI
        go_wp2_with (fail)
        refine HH.out.mono ?_
        rintro e w5 ⟨rfl, hb5⟩
        have HI3 := Lib.hid (HI2.out.below hb5)
        clear hb5
        go_wp2_with (fail)
        go_roundw
        case rel => exact ⟨k + 1, _, _, _, _, _, by omega, by go_num, HI3.out⟩
        case measure => simp [intOf]; omega
    · obtain rfl : k = os.length := by omega
      have HB := Lib.hid hI.qs.bel
      clear hI
      go_wp2
      go_ret
      exact ⟨rfl, HB.out⟩
end Go.Proofs.Ytmcknfpohnobdaa
