/- Queue: Touch by a contract. -/
import Derived.Test.YtmcknfpohnobdaaDoorQTP
namespace Go.Proofs.YtmcknfpohnobdaaDoor
set_option linter.unusedSimpArgs false
set_option linter.unusedVariables false
open Go.RowKit Go.MapKept Go.ChangeMaps Go.Maps

theorem RngT.left_eq {K V : Type} {ek : K → Value} {ev : V → Value} {w : World} {b r : Nat} {M Lf : List (K × V)} (h : RngT ek ev w b r M Lf) : w.rangeLeft b r = Lf.length := by
  obtain ⟨es, clock, since, seen, c0, h1, _, _, h4, _, _, _, h8⟩ := h
  simp only [World.rangeLeft, h1, h4]
  have := congrArg List.length h8
  simpa using this
theorem mget_mem {K V : Type} [DecidableEq K] {M : List (K × V)} {x : K} {v : V} (h : mget M x = some v) : (x, v) ∈ M := by
  unfold mget at h
  obtain ⟨q, hq, rfl⟩ := Option.map_eq_some_iff.1 h
  have h1 : q.1 = x := by simpa using List.find?_some hq
  have h2 := List.mem_of_find?_eq_some hq
  rw [← h1]; exact h2
theorem mget_no {K V : Type} [DecidableEq K] {M : List (K × V)} {x : K} (h : mget M x = none) : ∀ v, (x, v) ∉ M := by
  intro v hv
  unfold mget at h
  rw [Option.map_eq_none_iff] at h
  have := List.find?_eq_none.1 h _ hv
  simp at this
theorem turnBy_none {L : List Ent} {P : Ent → Bool} (h : ∀ e ∈ L, P e = false) : turnBy L P = L ∧ freshBy L P = 0 := by
  constructor
  · unfold turnBy
    conv => rhs; rw [← List.map_id L]
    exact List.map_congr_left (fun e he => by rw [h e he]; rfl)
  · unfold freshBy
    rw [List.length_eq_zero_iff]
    exact List.filter_eq_nil_iff.2 (fun e he => by rw [h e he]; simp)
theorem freshBy_le (L : List Ent) (P : Ent → Bool) : freshBy L P ≤ L.length := List.length_filter_le _ _
theorem QAt.keys_in {w : World} {p bi bw : Nat} {room turns : Int} {lv : Value} {L : List Ent} {W : List (Key × Nat)} (h : QAt w p room turns lv bi bw L W) {x : Key} (hm : mget W x = none) : ∀ e ∈ L, x ∉ e.keys := by
  intro e he hx
  have h1 : waitsL L x ≠ [] := by
    intro h0
    have : (e.b, (e.keys.count x : Int)) ∈ waitsL L x := List.mem_map.2 ⟨e, List.mem_filter.2 ⟨he, by simpa using hx⟩, rfl⟩
    rw [h0] at this; cases this
  obtain ⟨m, hmm⟩ := (h.wts.has x).2 h1
  exact mget_no hm m hmm

theorem RngT.but {K V : Type} {ek : K → Value} {ev : V → Value} {w w' : World} {b r g : Nat} {t : TypeId} {cs : Array Value} {M Lf : List (K × V)} (h : RngT ek ev w b r M Lf) (hb : But w w' (fun i => i = g)) (hg : Blk w g t cs) : RngT ek ev w' b r M Lf := by
  refine h.of_blocks (hb.block b h.map.lt (fun e => ?_)) (hb.block r h.lt (fun e => ?_))
  · exact blk_map_ne hg h.map e.symm
  · obtain ⟨es, clock, since, seen, c0, _, _, _, h4, _⟩ := h
    have hg' : w.heap[g]? = some (.cells cs t (0, 0)) := hg
    rw [← e, h4] at hg'
    cases hg'
/-- A step of Touch's inner range. -/
theorem touch_step {w w' : World} {p bi bw m r j : Nat} {room turns : Int} {lv : Value} {L : List Ent} {W : List (Key × Nat)} {P : Ent → Bool} {M Lf : List (Nat × Int)} (hn : (L.map (·.b)).Nodup) (hQ : QAt w p room turns lv bi bw (turnBy L P) W) (hj : j < L.length) {y : Ent} (hy : y = if P L[j] then L[j].hit else L[j])
    (hR : RngT eP eI w m r M Lf) (hE0 : Blk w L[j].b 68 y.cs) (hb : But w w' (fun i => i = L[j].b)) (hE : Blk w' L[j].b 68 y.hit.cs) :
    QAt w' p room turns lv bi bw (turnBy L (fun e => P e || decide (e.b = L[j].b))) W ∧ RngT eP eI w' m r M Lf := by
  have hjl : j < (turnBy L P).length := by unfold turnBy; simpa using hj
  have hg : (turnBy L P)[j] = y := (turnBy_get hj).trans hy.symm
  have hyb : y.b = L[j].b := by
    rw [hy]
    split
    · exact congrArg Prod.fst (hit_core L[j])
    · rfl
  refine ⟨?_, hR.but hb hE0⟩
  rw [← (turnBy_one hn hj hy).1]
  exact hQ.turn1 hjl (by rw [hg]; exact hit_core y) (by rw [hg, hyb]; exact hb) (by rw [hg, hyb]; exact hE)

set_option maxRecDepth 100000 in
set_option maxHeartbeats 4000000 in
theorem touch_calls {p bi bw : Nat} {room turns : Int} {lv : Value} {L : List Ent} {W : List (Key × Nat)} (ks : List Key) (A : Option Addr) (c : Nat) (w : World) (h : QAt w p room turns lv bi bw L W)
    (hr : ∀ w', But w w' (OfQ p lv bi bw L W) → Reads w' w'.heap.size 2 A ks.length (keysC ks)) (hl : L.length ≤ 2305843009213693951) (hk : ks.length ≤ 2305843009213693951) :
    Calls Tryd.prog 23 #[eP p, .slice A ks.length c] w
      fun e w' => e = .returned (.int .i64 (freshBy L (fun e => meets e.keys ks))) ∧ QAt w' p room turns lv bi bw (turnBy L (fun e => meets e.keys ks)) W ∧ But w w' (OfQ p lv bi bw L W) := by
  have H := Lib.hid h
  have HR := Lib.hid hr
  have HL := Lib.hid hl
  clear h hr hl
  unfold eP
  go_enter Tryd.func23, Tryd.ntmps23
  go_wp2_with (fail)
  go_loopw [5, 11] (fun n i wr => ∃ k : Nat, k ≤ ks.length ∧ i = .int .i64 k ∧ n = .int .i64 (freshBy L (fun e => meets e.keys (ks.take k))) ∧ QAt wr p room turns lv bi bw (turnBy L (fun e => meets e.keys (ks.take k))) W ∧ But w wr (OfQ p lv bi bw L W)) (fun _ i _ => ks.length - (intOf i).toNat)
  case atStart =>
    have h0 := turnBy_none (L := L) (P := fun e => meets e.keys (ks.take 0)) (fun e _ => by rw [List.take_zero, meets_nil])
    exact ⟨0, Nat.zero_le _, rfl, by rw [h0.2]; rfl, by rw [h0.1]; exact H.out, But.refl _ _⟩
  case round =>
    obtain ⟨k, hk2, rfl, rfl, hQ, hB⟩ := hrel
    by_cases hlt : k < ks.length
    · have hkl : (k : Int) < ks.length := by omega
      obtain ⟨ad, rfl, hadb, k0, k1⟩ := keys_at (HR.out wr hB) hlt
      have hT : ks.take (k + 1) = ks.take k ++ [ks[k]] := List.take_succ_eq_append_getElem hlt
      generalize ks[k] = x at k0 k1 hT
      generalize hpre : ks.take k = pre at hQ hT
      have HT := Lib.hid hT
      have HPRE := Lib.hid hpre
      obtain ⟨gk, hgk⟩ : ∃ q, wr.heap.size = q := ⟨_, rfl⟩
      obtain ⟨W1, hW1⟩ : ∃ X, wr.alloc (.cells #[.int .i64 x.acc, .int .i64 x.ast] 48) = X := ⟨_, rfl⟩
      have hb1 : Below wr.heap.size wr W1 := hW1 ▸ (Below.refl _ _).alloc (Nat.le_refl _) _
      have hx1 : Blk W1 gk 48 #[.int .i64 x.acc, .int .i64 x.ast] := by rw [← hW1, ← hgk]; exact Blk.new _ _ _
      obtain ⟨WD, hWD⟩ : ∃ X, W1.drew = X := ⟨_, rfl⟩
      have hbD : Below wr.heap.size wr WD := hWD ▸ hb1.drew
      have hxD : Blk WD gk 48 #[.int .i64 x.acc, .int .i64 x.ast] := hWD ▸ hx1.drew
      have hQD := hQ.below hbD
      have y4 : WD.cell? ⟨p, 4, none⟩ = some (.map (some bw)) := hQD.blk.cell 4
      have y5 : WD.cell? ⟨gk, 0, none⟩ = some (.int .i64 x.acc) := hxD.cell 0
      have y6 : WD.cell? ⟨gk, 1, none⟩ = some (.int .i64 x.ast) := hxD.cell 1
      have hlook := hQD.wts.top.look (keyE_key WD) (fun _ _ => trivial) (x := x) trivial Tryd.underlying58 (z := .map none) (by kernel_rfl) false
      unfold eK at hlook
      have HBD := Lib.hid (hB.trans (But.of_below hbD (fun _ => False)) (fun _ _ h => h.elim))
      have HQD := Lib.hid hQD
      clear hQ hB hb1 hx1 hbD hxD hQD hT hpre
      cases hm : mget W x with
      | none =>
        rw [hm] at hlook
        simp only [Option.map_none, Option.getD_none, Bool.false_eq_true, if_false] at hlook
        have HN := Lib.hid (HQD.out.keys_in hm)
        have HN := Lib.hid (fun (e : Ent) (he : e ∈ L) => by
          obtain ⟨y, hy, q⟩ := core_mem (turnBy_core L (fun e => meets e.keys pre)).symm he
          rw [← (core_kv q).2.2.1]
          exact HN.out y hy : ∀ e ∈ L, x ∉ e.keys)
        clear hm
        go_wp2_with (fail)
        refine region_tail 6 (by kernel_rfl) (by kernel_rfl) ?_
        rw [hWD]
        simp only [List.take_succ_cons, List.take_zero, List.drop_succ_cons, List.drop_zero]
        repeat still_step
        refine wpStill_nil ?_
        have hrange := run_range_nilMap (P := Tryd.prog) WD 74 63 3 Tryd.underlying74
        have hnext := run_next_nilMap (P := Tryd.prog) WD 0 0 0 #[]
        obtain ⟨r, hr⟩ : ∃ r, WD.heap.size = r := ⟨_, rfl⟩
        obtain ⟨W2, hW2⟩ : ∃ X, WD.alloc (.mapIter none 0 #[] 0) = X := ⟨_, rfl⟩
        have hb2 : Below WD.heap.size WD W2 := hW2 ▸ (Below.refl _ _).alloc (Nat.le_refl _) _
        rw [hr, hW2] at hrange hnext
        have HQ2 := Lib.hid (HQD.out.below hb2)
        have HB2 := Lib.hid (HBD.out.trans (But.of_below hb2 (fun _ => False)) (fun _ _ h => h.elim))
        clear hb2 hlook y4 y5 y6 k0 k1 hW2 hr hWD hW1 hgk
        go_wp2_with (fail)
        go_loopw [5] (fun n wr2 => n = .int .i64 (freshBy L (fun e => meets e.keys pre)) ∧ wr2 = W2) (fun _ _ => 0)
        case atStart => exact ⟨rfl, rfl⟩
        case round =>
          obtain ⟨rfl, hw⟩ := hrel
          rw [hw]
          clear hw
          go_wp2_with (fail)
          go_roundw
          case rel =>
            have hc := turnBy_congr (L := L) (P := fun e => meets e.keys pre) (P' := fun e => meets e.keys (ks.take (k + 1))) (fun e he => by
              rw [HT.out, meets_snoc, decide_eq_false (HN.out e he), Bool.or_false])
            refine ⟨k + 1, by omega, by go_num, by rw [hc.2], by rw [← hc.1]; exact HQ2.out, HB2.out⟩
          case measure => simp [intOf]; omega
      | some m =>
        rw [hm] at hlook
        simp only [Option.map_some, Option.getD_some, Bool.false_eq_true, if_false] at hlook
        unfold eM at hlook
        have hmem := mget_mem hm
        obtain ⟨W2, hrange, hR, hb2, hs2⟩ := (HQD.out.wts.inn x m hmem).range (P := Tryd.prog) Tryd.underlying74
        obtain ⟨r, hr⟩ : ∃ r, WD.heap.size = r := ⟨_, rfl⟩
        rw [hr] at hrange hR
        have e1 : waitsL (turnBy L (fun e => meets e.keys pre)) = waitsL L := funext (core_waits (turnBy_core L _))
        rw [e1] at hR
        have hrq : ∀ i, OfQ p lv bi bw L W i → i ≠ r := fun i hi e => by
          have := HQD.out.lt (ofq_core (L := turnBy L (fun e => meets e.keys pre)) (L' := L) (turnBy_core L _).symm hi)
          omega
        have HRQ := Lib.hid hrq
        have HRW : Hid (w.heap.size ≤ r) := by have := HBD.out.size; show w.heap.size ≤ r; omega
        have HR2 := Lib.hid hR
        have HQ2 := Lib.hid (HQD.out.below hb2)
        have HB2 := Lib.hid (HBD.out.trans (But.of_below hb2 (fun _ => False)) (fun _ _ h => h.elim))
        have HS2 : Hid (r < W2.heap.size) := by show r < W2.heap.size; omega
        have HMM := Lib.hid hmem
        clear hR hrq hm hmem
        go_wp2_with (fail)
        refine region_tail 6 (by kernel_rfl) (by kernel_rfl) ?_
        rw [hWD]
        simp only [List.take_succ_cons, List.take_zero, List.drop_succ_cons, List.drop_zero]
        repeat still_step
        refine wpStill_nil ?_
        clear hb2 hlook y4 y5 y6 k0 k1 hWD hW1 hgk e1 hr hs2
        go_wp2_with (fail)
        go_loopw [5] (fun n wr2 => ∃ left, RngT eP eI wr2 m r (waitsL L x) left ∧ (∀ q ∈ left, q ∈ waitsL L x) ∧ (left.map (·.1)).Nodup ∧ n = .int .i64 (freshBy L (ahead pre x left)) ∧ QAt wr2 p room turns lv bi bw (turnBy L (ahead pre x left)) W ∧ But w wr2 (OfQ p lv bi bw L W) ∧ W2.heap.size ≤ wr2.heap.size) (fun _ wr2 => wr2.rangeLeft m r)
        case atStart =>
          have hc := turnBy_congr (L := L) (ahead_start pre x)
          exact ⟨_, HR2.out, fun q hq => hq, waits_nodup H.out.bn x, by rw [← hc.2], by rw [← hc.1]; exact HQ2.out, HB2.out, Nat.le_refl _⟩
        case round =>
          obtain ⟨left, hR, hsub, hnd, rfl, hQ, hB, hsz⟩ := hrel
          have hle := hR.left_eq
          rcases hR.next (P := Tryd.prog) 0 with ⟨rfl, hnext⟩ | ⟨a, b, cnt, d, W3, rfl, hnext, hR3, hg3, hs3, hent⟩
          · have HQ := Lib.hid hQ
            have HB := Lib.hid hB
            clear hR hsub hnd hQ hB
            go_wp2_with (fail)
            go_roundw
            case rel =>
              have hc := turnBy_congr (L := L) (ahead_end (L := L) pre x)
              refine ⟨k + 1, by omega, by go_num, by rw [hc.2, HT.out], by rw [HT.out, ← hc.1]; exact HQ.out, HB.out⟩
            case measure => simp [intOf]; omega
          · obtain ⟨e0, he0, hb0, hk0⟩ := waits_mem (hsub (b, cnt) (by simp))
            obtain ⟨j, hj, rfl⟩ := List.getElem_of_mem he0
            simp only at hb0
            obtain ⟨y, hy⟩ : ∃ y, y = if ahead pre x (a ++ (b, cnt) :: d) L[j] then L[j].hit else L[j] := ⟨_, rfl⟩
            have hQ3 : QAt W3 p room turns lv bi bw (turnBy L (ahead pre x (a ++ (b, cnt) :: d))) W := hQ.but (S := fun i => i = r) ⟨hg3.os, hg3.tape, hg3.output, hg3.size, fun i hi hn => hg3.block i hi (fun e => hn (by cases e; rfl))⟩ (fun i hi e => HRQ.out i (ofq_core (turnBy_core L _) hi) e)
            have hB3 := hB.grown hg3 (fun i hi e => by cases e; have := HRW.out; omega)
            have hjl : j < (turnBy L (ahead pre x (a ++ (b, cnt) :: d))).length := by unfold turnBy; simpa using hj
            have hE := hQ3.ents _ (List.getElem_mem hjl)
            rw [turnBy_get hj, ← hy] at hE
            have hyb : y.b = b := by
              rw [hy]
              split
              · exact (congrArg Prod.fst (hit_core L[j])).trans hb0
              · exact hb0
            rw [hyb] at hE
            have e3 : W3.cell? ⟨b, 3, none⟩ = some (.bool y.rdy) := hE.cell 3
            have e4 : W3.cell? ⟨b, 4, none⟩ = some (.bool y.tkn) := hE.cell 4
            have e5 : W3.cell? ⟨b, 5, none⟩ = some (.bool y.tch) := hE.cell 5
            have f3 : W3.frozen? ⟨b, 3, none⟩ = false := hE.frozen 3
            have f5 : W3.frozen? ⟨b, 5, none⟩ = false := hE.frozen 5
            have hone := turnBy_one (P := ahead pre x (a ++ (b, cnt) :: d)) H.out.bn hj hy
            have hcong := turnBy_congr (L := L) (ahead_step (L := L) (pre := pre) (k := x) hnd (e0 := L[j]) hb0 hk0 (fun e he heb => by
              obtain ⟨i, hi, rfl⟩ := List.getElem_of_mem he
              have key := List.pairwise_iff_getElem.1 H.out.bn
              rcases Nat.lt_trichotomy i j with h1 | h1 | h1
              · have h2 := key i j (by simpa using hi) (by simpa using hj) h1
                rw [List.getElem_map, List.getElem_map] at h2
                exact absurd (heb.trans hb0.symm) h2
              · subst h1; rfl
              · have h2 := key j i (by simpa using hj) (by simpa using hi) h1
                rw [List.getElem_map, List.getElem_map] at h2
                exact absurd (hb0.trans heb.symm) h2))
            have hfl := freshBy_le L (ahead pre x (a ++ (b, cnt) :: d))
            have hll := HL.out
            have hw1 : IntKind.i64.wrap ((freshBy L (ahead pre x (a ++ (b, cnt) :: d)) : Int) + 1) = (freshBy L (ahead pre x (a ++ (b, cnt) :: d)) : Int) + 1 := IntWalk.i64_in _ (by omega)
            have hof : OfQ p lv bi bw L W b := .inr (.inr (.inr (.inr (.inl ⟨L[j], he0, .inl hb0.symm⟩))))
            have HSUB : Hid (∀ q ∈ a ++ d, q ∈ waitsL L x) := fun q hq => hsub q (by
              rcases List.mem_append.1 hq with h | h
              · exact List.mem_append_left _ h
              · exact List.mem_append_right _ (List.mem_cons_of_mem _ h))
            have HND : Hid (((a ++ d).map (·.1)).Nodup) := by
              refine (List.Sublist.map _ ?_).nodup hnd
              exact List.Sublist.append (List.Sublist.refl _) (List.sublist_cons_self _ _)
            obtain ⟨N, hN⟩ : ∃ N, freshBy L (ahead pre x (a ++ (b, cnt) :: d)) = N := ⟨_, rfl⟩
            rw [hN] at hw1 hone
            rw [hN]
            have hN2 : freshBy L (ahead pre x (a ++ d)) = N + (if (!y.tkn && !y.rdy) = true then 1 else 0) := by rw [← hcong.2]; exact hone.2
            have HQ3 := Lib.hid hQ3
            have HB3 := Lib.hid hB3
            have HE := Lib.hid hE
            have HY := Lib.hid hy
            have HB0 := Lib.hid hb0
            have HC1 := Lib.hid hcong.1
            have HN2 := Lib.hid hN2
            have HR3 := Lib.hid hR3
            have HOF := Lib.hid hof
            have HSZ : Hid (W2.heap.size ≤ W3.heap.size) := Nat.le_trans hsz (by omega)
            have HLE : Hid (wr.rangeLeft m r = a.length + d.length + 1) := by show wr.rangeLeft m r = _; rw [hle]; simp; omega
            clear hR hsub hnd hQ hB hle hQ3 hB3 hE hy hb0 hone hcong hN2 hR3 hof hfl hk0 he0 hN hyb
            unfold eP eI at hnext
            unfold eP eI at hent
            cases ht : y.tkn with
            | true =>
              rw [ht] at e4
              have hbt : But W3 (W3.setCell ⟨b, 5, none⟩ (.bool true)) (fun i => i = L[j].b) := (But.refl _ _).setCell (fun _ => HB0.out.symm) _
              have hst := touch_step H.out.bn HQ3.out hj HY.out HR3.out (HB0.out.symm ▸ HE.out) hbt (by
                rw [HB0.out]
                have hh : y.hit.cs = #[.int .i64 y.id, .int .i64 y.turn, y.kv, .bool y.rdy, .bool y.tkn, .bool true] := by unfold Ent.hit; rw [ht]; simp [Ent.cs, Ent.kv, ht]
                rw [hh]
                exact HE.out.set_ 5 (.bool true))
              rw [HC1.out] at hst
              have HST := Lib.hid hst
              have hn0 : freshBy L (ahead pre x (a ++ d)) = N := by rw [HN2.out, ht]; simp
              have HN0 := Lib.hid hn0
              clear hst hbt hn0
              go_wp2_with (fail)
              go_roundw
              case rel => exact ⟨_, HST.out.2, HSUB.out, HND.out, by rw [HN0.out], HST.out.1, HB3.out.setCell (fun _ => HOF.out) _, by have := HSZ.out; simpa using this⟩
              case measure => rw [HST.out.2.left_eq, HLE.out]; simp
            | false =>
              rw [ht] at e4
              cases hr2 : y.rdy with
              | true =>
                rw [hr2] at e3
                have hst := touch_step H.out.bn HQ3.out hj HY.out HR3.out (HB0.out.symm ▸ HE.out) (But.refl _ _) (by
                  rw [HB0.out]
                  have hh : y.hit.cs = y.cs := by unfold Ent.hit; rw [ht]; simp [Ent.cs, Ent.kv, hr2, ht]
                  rw [hh]
                  exact HE.out)
                rw [HC1.out] at hst
                have HST := Lib.hid hst
                have hn0 : freshBy L (ahead pre x (a ++ d)) = N := by rw [HN2.out, ht, hr2]; simp
                have HN0 := Lib.hid hn0
                clear hst hn0
                go_wp2_with (fail)
                go_roundw
                case rel => exact ⟨_, HST.out.2, HSUB.out, HND.out, by rw [HN0.out], HST.out.1, HB3.out, HSZ.out⟩
                case measure => rw [HST.out.2.left_eq, HLE.out]; simp
              | false =>
                rw [hr2] at e3
                have hbt : But W3 (W3.setCell ⟨b, 3, none⟩ (.bool true)) (fun i => i = L[j].b) := (But.refl _ _).setCell (fun _ => HB0.out.symm) _
                have hst := touch_step H.out.bn HQ3.out hj HY.out HR3.out (HB0.out.symm ▸ HE.out) hbt (by
                  rw [HB0.out]
                  have hh : y.hit.cs = #[.int .i64 y.id, .int .i64 y.turn, y.kv, .bool true, .bool y.tkn, .bool y.tch] := by unfold Ent.hit; rw [ht]; simp [Ent.cs, Ent.kv, ht]
                  rw [hh]
                  exact HE.out.set_ 3 (.bool true))
                rw [HC1.out] at hst
                have HST := Lib.hid hst
                have hn0 : freshBy L (ahead pre x (a ++ d)) = N + 1 := by rw [HN2.out, ht, hr2]; simp
                have HN0 := Lib.hid hn0
                clear hst hbt hn0
                go_wp2_with (fail)
                go_roundw
                case rel => exact ⟨_, HST.out.2, HSUB.out, HND.out, by rw [HN0.out]; go_num, HST.out.1, HB3.out.setCell (fun _ => HOF.out) _, by have := HSZ.out; simpa using this⟩
                case measure => rw [HST.out.2.left_eq, HLE.out]; simp
    · obtain rfl : k = ks.length := by omega
      rw [List.take_length] at hQ
      have HQ := Lib.hid hQ
      have HB := Lib.hid hB
      clear hQ hB
      rw [List.take_length]
      go_wp2
      go_ret
      exact ⟨rfl, HQ.out, HB.out⟩
end Go.Proofs.YtmcknfpohnobdaaDoor
