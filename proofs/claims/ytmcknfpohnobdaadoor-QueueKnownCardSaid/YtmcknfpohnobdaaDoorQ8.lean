/- The law's own helper: works by a contract. -/
import Derived.Test.YtmcknfpohnobdaaDoorQ7
import Derived.Shelf.Abstract
namespace Go.Proofs.YtmcknfpohnobdaaDoor
set_option linter.unusedSimpArgs false
set_option linter.unusedVariables false
open Go.RowKit Go.MapKept Go.ChangeMaps Go.Maps

theorem idleQ_calls {p bi bw : Nat} {room turns : Int} {lv : Value} {L : List Ent} {W : List (Key × Nat)} (w : World) (h : QAt w p room turns lv bi bw L W) (hlen : L.length ≤ 5864062014805) :
    Calls Tryd.prog 10 #[eP p] w
      fun e w' => ∃ v, e = .returned v ∧ w'.ownsRow w.heap.size 3 1 v (L.filter (fun x => !x.rdy && !x.tkn)).length (intsC ((L.filter (fun x => !x.rdy && !x.tkn)).map (·.id))) ∧ Below w.heap.size w w' := by
  have hs := such_calls 28 (fun x => !x.rdy && !x.tkn) w h hlen (enters_of Tryd.func28 (by kernel_rfl) rfl) (fun w' x hx => idle_calls w' x hx)
  unfold eP at hs ⊢
  have HS := Lib.hid hs
  clear hs
  go_enter Tryd.func10, Tryd.ntmps10
  go_wp2_with (fail)
  refine HS.out.mono ?_
  rintro e w1 ⟨v, rfl, hown, hb⟩
  have HO := Lib.hid hown
  have HB := Lib.hid hb
  clear hown hb
  go_wp2
  go_ret
  exact ⟨_, rfl, HO.out, HB.out⟩

theorem below_after {a b c : World} (h : Below a.heap.size a b) (h' : Below b.heap.size b c) : Below a.heap.size a c := h.trans (h'.mono h.size)
/-- A key of one's own, as a list of one. -/
theorem key_lit (w : World) (x : Key) {S : Nat → Prop} (hS : ¬ S w.heap.size) {w' : World} (hb : But (w.alloc (.cells #[.int .i64 x.acc, .int .i64 x.ast] 48)) w' S) :
    Reads w' w'.heap.size 2 (some ⟨w.heap.size, 0, none⟩) [x].length (keysC [x]) := by
  have h := (Blk.new w 48 #[.int .i64 x.acc, .int .i64 x.ast]).but hb hS
  refine ⟨rfl, fun _ => ⟨_, rfl, h.lt, fun j u hu => ?_⟩⟩
  have hj : j < 2 := (List.getElem?_eq_some_iff.1 hu).1
  match j, hj with
  | 0, _ => cases hu; exact h.cell 0
  | 1, _ => cases hu; exact h.cell 1

set_option maxRecDepth 100000 in
set_option maxHeartbeats 8000000 in
theorem works_calls (w : World) : Calls Tryd.prog 20 #[] w fun e w' => e = .returned (.bool true) ∧ Below w.heap.size w w' := by
  go_enter Tryd.func20, Tryd.ntmps20
  go_wp2_with (fail)
  refine (newQ_calls 1 w).mono ?_
  rintro e w1 ⟨p, bi, bw, rfl, hQ, hB, hO⟩
  rw [show roomQ 1 = 1 from rfl] at hQ
  -- the key
  have hQ2 := hQ.below ((Below.refl _ _).alloc (Nat.le_refl _) (.cells #[.int .i64 1, .int .i64 0] 48))
  have hput := put_calls 5 (by rfl) [⟨1, 0⟩] (some ⟨w1.heap.size, 0, none⟩) 1 _ hQ2 (fun w' hb => key_lit w1 ⟨1, 0⟩ (fun hs => absurd (hQ.lt hs) (by omega)) hb) (fun h => by cases h) (by simp) (by simp)
  rw [show putN [] 1 5 = 0 by unfold putN; simp, errV_zero] at hput
  have HP := Lib.hid hput
  have HB1 := Lib.hid (hB.alloc hB.size (.cells #[.int .i64 1, .int .i64 0] 48))
  have HO := Lib.hid hO
  clear hQ2 hput hQ hB hO
  unfold eP
  go_wp2_with (fail)
  have hp := HP.out
  unfold eP at hp
  refine hp.mono ?_
  rintro e w2 ⟨L', t', lv', W', rfl, hpq⟩
  obtain ⟨y, rfl, hyid, hyk, hyr, hyt, hyc⟩ := hpq.yes (by unfold putN; simp)
  have hB2 := HB1.out.trans (hpq.but.to_below (fun i hi => HO.out i hi) HB1.out.size)
  have hO2 : ∀ i, OfQ p lv' bi bw ([] ++ [y]) W' i → w.heap.size ≤ i := fun i hi => by
    rcases hpq.new i hi with h | h
    · exact HO.out i h
    · exact Nat.le_trans HB1.out.size h
  have hQ2 := hpq.q
  rw [List.nil_append] at hQ2 hO2
  have hid := idleQ_calls w2 hQ2 (by simp)
  rw [show [y].filter (fun x => !x.rdy && !x.tkn) = [y] by simp [hyr, hyt]] at hid
  unfold eP at hid
  have HID := Lib.hid hid
  have HB2 := Lib.hid hB2
  have HO2 := Lib.hid hO2
  have HQ2 := Lib.hid hQ2
  have HY := Lib.hid (And.intro hyid (And.intro hyk (And.intro hyr (And.intro hyt hyc))))
  clear hp hpq hyid hyk hyr hyt hyc hB2 hO2 hQ2 hid
  go_wp2_with (fail)
  refine HID.out.mono ?_
  rintro e w3 ⟨v3, rfl, hown3, hb3⟩
  obtain ⟨A3, c3, rfl⟩ := own_slice hown3
  have hQ3 := HQ2.out.below hb3
  have hB3 := below_after HB2.out hb3
  have hQ4 := hQ3.below ((Below.refl _ _).alloc (Nat.le_refl _) (.cells #[.int .i64 2, .int .i64 0] 48))
  have ht := touch_calls [⟨2, 0⟩] (some ⟨w3.heap.size, 0, none⟩) 1 _ hQ4 (fun w' hb => key_lit w3 ⟨2, 0⟩ (fun hs => absurd (hQ3.lt hs) (by omega)) hb) (by simp) (by simp)
  have hz := turnBy_none (L := [y]) (P := fun e => meets e.keys [⟨2, 0⟩]) (fun e he => by
    rw [List.mem_singleton.1 he, HY.out.2.1]; rfl)
  rw [hz.1, hz.2] at ht
  unfold eP at ht
  have HT := Lib.hid ht
  have HB4 := Lib.hid (hB3.alloc hB3.size (.cells #[.int .i64 2, .int .i64 0] 48))
  clear hown3 hb3 hQ3 hQ4 hB3 ht hz
  go_wp2_with (fail)
  refine HT.out.mono ?_
  rintro e w5 ⟨rfl, hQ5, hbut5⟩
  have hB5 := HB4.out.trans (hbut5.to_below (fun i hi => HO2.out i hi) HB4.out.size)
  have hQ6 := hQ5.below ((Below.refl _ _).alloc (Nat.le_refl _) (.cells #[.int .i64 1, .int .i64 0] 48))
  have ht := touch_calls [⟨1, 0⟩] (some ⟨w5.heap.size, 0, none⟩) 1 _ hQ6 (fun w' hb => key_lit w5 ⟨1, 0⟩ (fun hs => absurd (hQ5.lt hs) (by omega)) hb) (by simp) (by simp)
  have hm : meets y.keys [⟨1, 0⟩] = true := by rw [HY.out.2.1]; rfl
  have hz1 : turnBy [y] (fun e => meets e.keys [⟨1, 0⟩]) = [y.hit] := by unfold turnBy; simp [hm]
  have hz2 : freshBy [y] (fun e => meets e.keys [⟨1, 0⟩]) = 1 := by unfold freshBy; simp [hm, HY.out.2.2.1, HY.out.2.2.2.1]
  rw [hz1, hz2] at ht
  unfold eP at ht
  have HT2 := Lib.hid ht
  have HB6 := Lib.hid (hB5.alloc hB5.size (.cells #[.int .i64 1, .int .i64 0] 48))
  clear hQ5 hbut5 hB5 hQ6 ht hm hz1 hz2
  go_wp2_with (fail)
  refine HT2.out.mono ?_
  rintro e w7 ⟨rfl, hQ7, hbut7⟩
  have hB7 := HB6.out.trans (hbut7.to_below (fun i hi => HO2.out i hi) HB6.out.size)
  have hO7 : ∀ i, OfQ p lv' bi bw [y.hit] W' i → w.heap.size ≤ i := fun i hi => HO2.out i (ofq_core (L' := [y.hit]) (L := [y]) (by simp [hit_core]) hi)
  have htk := take_calls w7 hQ7 (by simp)
  unfold eP at htk
  have HTK := Lib.hid htk
  have HB7 := Lib.hid hB7
  have HO7 := Lib.hid hO7
  clear hQ7 hbut7 hB7 hO7 htk
  go_wp2_with (fail)
  refine HTK.out.mono ?_
  rintro e w8 ⟨L8, n8, ok8, rfl, htq, hcore8, hQ8, hbut8⟩
  have hB8 := HB7.out.trans (hbut8.to_below (fun i hi => HO7.out i hi) HB7.out.size)
  have hyh : y.hit.rdy = true ∧ y.hit.id = 5 := by unfold Ent.hit; rw [HY.out.2.2.2.1]; exact ⟨rfl, HY.out.1⟩
  obtain ⟨rfl, rfl⟩ : n8 = 5 ∧ ok8 = true := by
    rcases htq with ⟨_, _, _, h⟩ | ⟨k, hk, h1, h2, h3, h4, h5⟩
    · have := h y.hit (by simp)
      rw [hyh.1] at this; cases this
    · have hk0 : k = 0 := by simpa using hk
      subst hk0
      exact ⟨h4.trans hyh.2, h1⟩
  have hlen8 : L8.length = 1 := core_len hcore8
  have hlc := len_calls w8 hQ8
  rw [hlen8] at hlc
  unfold eP at hlc
  have HLC := Lib.hid hlc
  have HB8 := Lib.hid hB8
  clear htq hcore8 hQ8 hbut8 hB8 hyh hlen8 hlc
  go_wp2_with (fail)
  refine HLC.out.mono ?_
  rintro e w9 ⟨rfl, rfl⟩
  go_wp2
  go_ret
  exact ⟨rfl, HB8.out⟩
end Go.Proofs.YtmcknfpohnobdaaDoor
