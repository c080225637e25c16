/- Queue: Back, such, Items, Idle, New by contracts. -/
import Derived.Test.YtmcknfpohnobdaaDoorQ1
namespace Go.Proofs.YtmcknfpohnobdaaDoor
set_option linter.unusedSimpArgs false
set_option linter.unusedVariables false
open Go.RowKit Go.MapKept Go.ChangeMaps Go.Maps

theorem infoQInt : (Tryd.prog.info? 3).map (fun i => (i.zero, i.size, i.bytes)) = some (some (.int .i64 0), 1, 8) := by kernel_rfl
theorem nd_get {L : List Ent} (h : (L.map (·.id)).Nodup) {i j : Nat} (hi : i < L.length) (hj : j < L.length) (e : L[i].id = L[j].id) : i = j := by
  have key := List.pairwise_iff_getElem.1 h
  rcases Nat.lt_trichotomy i j with h1 | h1 | h1
  · have h2 := key i j (by simpa using hi) (by simpa using hj) h1
    rw [List.getElem_map, List.getElem_map] at h2
    exact absurd e h2
  · exact h1
  · have h2 := key j i (by simpa using hj) (by simpa using hi) h1
    rw [List.getElem_map, List.getElem_map] at h2
    exact absurd e.symm h2
/-- The place of an id. -/
def placeQ (L : List Ent) (id : Int) : Nat := L.findIdx (fun e => decide (e.id = id))
theorem place_lt {L : List Ent} {id : Int} (h : ∃ e ∈ L, e.id = id) : ∃ hk : placeQ L id < L.length, (L[placeQ L id]).id = id := by
  obtain ⟨e, he, hid⟩ := h
  have hk : placeQ L id < L.length := List.findIdx_lt_length_of_exists ⟨e, he, by simpa using hid⟩
  exact ⟨hk, by
    have h1 : (fun e : Ent => decide (e.id = id)) (L[placeQ L id]'hk) = true := List.findIdx_getElem (w := hk)
    exact of_decide_eq_true h1⟩
theorem mget_ids {L : List Ent} (id : Int) : mget (L.map (fun e => (e.id, e.b))) id = (L.find? (fun e => decide (e.id = id))).map (·.b) := by
  induction L with
  | nil => rfl
  | cons e L ih =>
    unfold mget at ih ⊢
    rw [List.map_cons, List.find?_cons, List.find?_cons]
    by_cases h : e.id = id
    · simp [h]
    · have hd : decide (e.id = id) = false := decide_eq_false h
      rw [hd]
      exact ih
theorem mget_there {L : List Ent} {id : Int} {k : Nat} (hn : (L.map (·.id)).Nodup) (hk : k < L.length) (he : L[k].id = id) : mget (L.map (fun e => (e.id, e.b))) id = some L[k].b := by
  rw [mget_ids]
  obtain ⟨x, hx⟩ : ∃ x, L.find? (fun e => decide (e.id = id)) = some x := by
    cases h : L.find? (fun e => decide (e.id = id)) with
    | some x => exact ⟨x, rfl⟩
    | none => exact absurd he (by simpa using List.find?_eq_none.1 h L[k] (List.getElem_mem hk))
  rw [hx]
  have h1 : x.id = id := by simpa using List.find?_some hx
  obtain ⟨j, hj, rfl⟩ := List.getElem_of_mem (List.mem_of_find?_eq_some hx)
  obtain rfl := nd_get hn hj hk (h1.trans he.symm)
  rfl
theorem mget_not {L : List Ent} {id : Int} (h : ∀ e ∈ L, e.id ≠ id) : mget (L.map (fun e => (e.id, e.b))) id = none := by
  rw [mget_ids, List.find?_eq_none.2 (fun e he => by simpa using h e he)]
  rfl
section
variable {w : World} {p bi bw : Nat} {room turns : Int} {lv : Value} {L : List Ent} {W : List (Key × Nat)}
theorem QAt.idS (h : QAt w p room turns lv bi bw L W) : ∀ q ∈ L.map (fun e => (e.id, e.b)), wfI q.1 := by
  intro q hq
  obtain ⟨e, he, rfl⟩ := List.mem_map.1 hq
  exact h.wf e he
/-- What a look-up of an id gives. -/
theorem QAt.look_id (h : QAt w p room turns lv bi bw L W) {id : Int} (hid : wfI id) (c : Bool) :
    (Instr.lookup 57 (.map (some bi)) (.int .i64 id) c).run Tryd.prog w = .ok (if c then .tuple #[((mget (L.map (fun e => (e.id, e.b))) id).map eP).getD (.pointer none), .bool (mget (L.map (fun e => (e.id, e.b))) id).isSome] else ((mget (L.map (fun e => (e.id, e.b))) id).map eP).getD (.pointer none)) w :=
  h.ids.look (keyE_int w) h.idS hid Tryd.underlying57 (by kernel_rfl) c
end

/-- What Back answers. -/
def BackQ (L L' : List Ent) (id : Int) (ok : Bool) : Prop :=
  (ok = false ∧ L' = L ∧ ∀ e ∈ L, e.id = id → e.tkn = false) ∨
  ∃ (k : Nat) (hk : k < L.length), L[k].id = id ∧ L[k].tkn = true ∧ ok = L[k].tch ∧ L' = L.set k { L[k] with rdy := L[k].tch, tkn := false }
set_option maxRecDepth 100000 in
set_option maxHeartbeats 4000000 in
theorem back_calls {p bi bw : Nat} {room turns : Int} {lv : Value} {L : List Ent} {W : List (Key × Nat)} (id : Int) (hid : wfI id) (w : World) (h : QAt w p room turns lv bi bw L W) : Calls Tryd.prog 25 #[eP p, .int .i64 id] w
    fun e w' => ∃ L' ok, e = .returned (.bool ok) ∧ BackQ L L' id ok ∧ L'.map Ent.core = L.map Ent.core ∧ QAt w' p room turns lv bi bw L' W ∧ But w w' (OfQ p lv bi bw L W) := by
  have c3 : w.cell? ⟨p, 3, none⟩ = some (.map (some bi)) := h.blk.cell 3
  have hl := h.look_id hid false
  have H := Lib.hid h
  clear h
  unfold eP
  by_cases hex : ∃ e ∈ L, e.id = id
  · obtain ⟨k, hk, hkid⟩ : ∃ k, ∃ hk : k < L.length, L[k].id = id := ⟨_, place_lt hex⟩
    rw [mget_there H.out.idn hk hkid] at hl
    simp only [Option.map_some, Option.getD_some, Bool.false_eq_true, if_false] at hl
    unfold eP at hl
    have hB := H.out.ents _ (List.getElem_mem hk)
    have HKI := Lib.hid hkid
    clear hkid hex
    obtain ⟨x, hx⟩ : ∃ x, L[k] = x := ⟨_, rfl⟩
    rw [hx] at hB hl
    have e3 : w.cell? ⟨x.b, 3, none⟩ = some (.bool x.rdy) := hB.cell 3
    have e4 : w.cell? ⟨x.b, 4, none⟩ = some (.bool x.tkn) := hB.cell 4
    have e5 : w.cell? ⟨x.b, 5, none⟩ = some (.bool x.tch) := hB.cell 5
    have f3 : w.frozen? ⟨x.b, 3, none⟩ = false := hB.frozen 3
    have f4 : w.frozen? ⟨x.b, 4, none⟩ = false := hB.frozen 4
    have HX := Lib.hid hx
    have HB := Lib.hid hB
    clear hx hB
    go_enter Tryd.func25, Tryd.ntmps25
    cases ht : x.tkn with
    | true =>
      rw [ht] at e4
      go_wp2
      go_ret
      refine ⟨L.set k { x with rdy := x.tch, tkn := false }, _, rfl, .inr ⟨k, hk, HKI.out, by rw [HX.out]; exact ht, by rw [HX.out], by rw [HX.out]⟩, core_set hk (by rw [HX.out]; rfl), ?_, ?_⟩
      · refine H.out.turn1 hk (by rw [HX.out]; rfl) (((But.refl w _).setCell (fun _ => by rw [HX.out]) _).setCell (fun _ => by rw [HX.out]) _) ?_
        rw [HX.out]
        exact (HB.out.set_ 4 (.bool false)).set_ 3 (.bool x.tch)
      · have hof : OfQ p lv bi bw L W x.b := .inr (.inr (.inr (.inr (.inl ⟨x, HX.out ▸ List.getElem_mem hk, .inl rfl⟩))))
        exact ((But.refl w _).setCell (fun _ => hof) _).setCell (fun _ => hof) _
    | false =>
      rw [ht] at e4
      go_wp2
      go_ret
      refine ⟨L, _, rfl, .inl ⟨rfl, rfl, fun e he hei => ?_⟩, rfl, H.out, But.refl _ _⟩
      obtain ⟨j, hj, rfl⟩ := List.getElem_of_mem he
      obtain rfl := nd_get H.out.idn hj hk (hei.trans HKI.out.symm)
      rw [HX.out]; exact ht
  · have hno : ∀ e ∈ L, e.id ≠ id := fun e he hh => hex ⟨e, he, hh⟩
    rw [mget_not hno] at hl
    simp only [Option.map_none, Option.getD_none, Bool.false_eq_true, if_false] at hl
    have HNO := Lib.hid hno
    clear hex hno
    go_enter Tryd.func25, Tryd.ntmps25
    go_wp2
    go_ret
    exact ⟨L, _, rfl, .inl ⟨rfl, rfl, fun e he hei => absurd hei (HNO.out e he)⟩, rfl, H.out, But.refl _ _⟩

theorem item_calls (w : World) (v : Value) : Calls Tryd.prog 27 #[v] w fun e w' => e = .returned (.bool true) ∧ w' = w := by
  go_enter Tryd.func27, Tryd.ntmps27
  go_wp2
  go_ret
  exact ⟨rfl, rfl⟩
set_option maxRecDepth 100000 in
set_option maxHeartbeats 1000000 in
theorem idle_calls (w : World) (x : Ent) (h : Blk w x.b 68 x.cs) : Calls Tryd.prog 28 #[eP x.b] w fun e w' => e = .returned (.bool (!x.rdy && !x.tkn)) ∧ w' = w := by
  have e3 : w.cell? ⟨x.b, 3, none⟩ = some (.bool x.rdy) := h.cell 3
  have e4 : w.cell? ⟨x.b, 4, none⟩ = some (.bool x.tkn) := h.cell 4
  unfold eP
  go_enter Tryd.func28, Tryd.ntmps28
  cases hr : x.rdy <;> cases ht : x.tkn
  all_goals
    rw [hr] at e3
    rw [ht] at e4
    go_wp2
    go_ret
    exact ⟨rfl, rfl⟩

set_option maxRecDepth 100000 in
set_option maxHeartbeats 4000000 in
theorem such_calls {p bi bw : Nat} {room turns : Int} {lv : Value} {L : List Ent} {W : List (Key × Nat)} (f : FuncId) (q : Ent → Bool) (w : World) (h : QAt w p room turns lv bi bw L W) (hlen : L.length ≤ 5864062014805) (hcf : ∀ args w, (callFunc f args).run Tryd.prog w = .ok (.enter f args) w)
    (hf : ∀ (w' : World) (x : Ent), Blk w' x.b 68 x.cs → Calls Tryd.prog f #[eP x.b] w' fun e w2 => e = .returned (.bool (q x)) ∧ w2 = w') :
    Calls Tryd.prog 26 #[eP p, .func (.func f) #[] #[]] w
      fun e w' => ∃ v, e = .returned v ∧ w'.ownsRow w.heap.size 3 1 v (L.filter q).length (intsC ((L.filter q).map (·.id))) ∧ Below w.heap.size w w' := by
  obtain ⟨i0, hi0, hz0, hz1, hz2⟩ := info_parts infoQInt
  obtain ⟨A, c, rfl⟩ := own_slice h.row
  have c2 : w.cell? ⟨p, 2, none⟩ = some (.slice A L.length c) := h.blk.cell 2
  have H := Lib.hid h
  have HF := Lib.hid hf
  clear h hf
  unfold eP
  go_enter Tryd.func26, Tryd.ntmps26
  go_wp2_with (fail)
  go_loopw [5, 7, 13] (fun ov _ i wr => ∃ k : Nat, k ≤ L.length ∧ i = .int .i64 k ∧ wr.ownsRow w.heap.size 3 1 ov ((L.take k).filter q).length (intsC (((L.take k).filter q).map (·.id))) ∧ Below w.heap.size w wr) (fun _ _ i _ => L.length - (intOf i).toNat)
  case atStart => exact ⟨0, Nat.zero_le _, rfl, World.ownsRow_nil _ _ _ _, Below.refl _ _⟩
  case round =>
    obtain ⟨k, hk, rfl, hO, hB⟩ := hrel
    obtain ⟨M, hM⟩ : ∃ M, (L.take k).filter q = M := ⟨_, rfl⟩
    rw [hM] at hO
    obtain ⟨OA, oc, rfl⟩ := own_slice hO
    have hnl : M.length ≤ k := by rw [← hM]; exact Nat.le_trans (List.length_filter_le _ _) (by simp; omega)
    have HNL := Lib.hid hnl
    have HM := Lib.hid hM
    have HO := Lib.hid hO
    have HB := Lib.hid hB
    clear hO hB hM hnl
    by_cases hlt : k < L.length
    · have hkl : (k : Int) < L.length := by omega
      have HQ := Lib.hid (H.out.below HB.out)
      obtain ⟨ad, rfl, hc⟩ := HQ.out.ent_at rfl hlt
      unfold eP at hc
      have hE := HQ.out.ents _ (List.getElem_mem hlt)
      have hT : L.take (k + 1) = L.take k ++ [L[k]] := List.take_succ_eq_append_getElem hlt
      generalize hx : L[k] = x at hc hE hT
      have e0 : wr.cell? ⟨x.b, 0, none⟩ = some (.int .i64 x.id) := hE.cell 0
      have HE := Lib.hid hE
      have HT := Lib.hid hT
      clear hx hE hT
      go_wp2_with (fail)
      have hcon := HF.out wr x HE.out
      unfold eP at hcon
      refine hcon.mono ?_
      rintro e w1 ⟨rfl, hw1⟩
      subst hw1
      clear hcon
      cases hq : q x with
      | true =>
        have hf1 : (L.take (k + 1)).filter q = M ++ [x] := by rw [HT.out, List.filter_append, List.filter_cons_of_pos hq, HM.out]; rfl
        have HF1 := Lib.hid hf1
        clear hf1
        go_wp2_with (first | (at_builtin; refine wpList_append_wide_at _ rfl (.tmp 20) (.tmp 25) 35 rfl w.heap.size 3 i0 _ 1 8 Tryd.underlying35 hi0 hz0 hz1 hz2 rfl (by decide) (.slice OA M.length oc) M.length (intsC (M.map (·.id))) rfl (HO.out.alloc _) ⟨w1.heap.size, 0, none⟩ 1 1 [.int .i64 x.id] rfl rfl ?_ ?_ ?_ ?_ ?_ ?_; exact new_cells w1 3 [.int .i64 x.id]; (simp [Value.oneCell']); (have := HNL.out; unfold maxLen; omega); (have := HNL.out; omega); (have := HB.out.size; simp; omega); intro vq w3 hown3 hg3 _ hat3; obtain ⟨NA, nc, rfl⟩ := own_slice hown3; have HO3 := Lib.hid hown3; have HB3 := Lib.hid ((HB.out.alloc HB.out.size _).grown hg3 (by have := HB.out.size; simp; omega) (fun b hb => own_base HO.out hb)); clear hown3 hg3 hat3))
        go_roundw
        case rel =>
          refine ⟨k + 1, by omega, by go_num, ?_, HB3.out⟩
          rw [HF1.out, List.length_append, List.map_append]
          have := HO3.out
          rw [intsC, List.flatMap_append]
          exact this
        case measure => simp [intOf]; omega
      | false =>
        have hf1 : (L.take (k + 1)).filter q = M := by rw [HT.out, List.filter_append, List.filter_cons_of_neg (by simp [hq]), HM.out]; simp
        have HF1 := Lib.hid hf1
        clear hf1
        go_wp2
        go_roundw
        case rel =>
          refine ⟨k + 1, by omega, by go_num, ?_, HB.out⟩
          rw [HF1.out]
          exact HO.out
        case measure => simp [intOf]; omega
    · obtain rfl : k = L.length := by omega
      have hm2 := HM.out
      rw [List.take_length] at hm2
      subst hm2
      go_wp2
      go_ret
      exact ⟨_, rfl, HO.out, HB.out⟩
end Go.Proofs.YtmcknfpohnobdaaDoor
