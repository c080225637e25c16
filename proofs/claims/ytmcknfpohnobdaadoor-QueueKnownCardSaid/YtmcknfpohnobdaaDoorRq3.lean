/- The document's queue: Items, Idles, Remove. -/
import Derived.Test.YtmcknfpohnobdaaDoorRq2
import Derived.Test.YtmcknfpohnobdaaDoorQ11
namespace Go.Proofs.YtmcknfpohnobdaaDoor
set_option linter.unusedSimpArgs false
set_option linter.unusedVariables false
open Go.RowKit Go.MapKept Go.ChangeMaps Go.Maps

theorem ints_snoc (xs : List Int) (x : Int) : intsC (xs ++ [x]) = intsC xs ++ [.int .i64 x] := by unfold intsC; rw [List.flatMap_append]; rfl
set_option maxRecDepth 100000 in
set_option maxHeartbeats 4000000 in
theorem itemsR_calls {p : Nat} {room : Int} {v : Value} {L : List RE} (w : World) (h : RAt w p room v L) (hl : L.length ≤ 5864062014805) :
    Calls Tryd.prog 9 #[eP p] w
      fun e w' => ∃ v, e = .returned v ∧ w'.ownsRow w.heap.size 3 1 v L.length (intsC (L.map (·.id))) ∧ Below w.heap.size w w' := by
  obtain ⟨i0, hi0, hz0, hz1, hz2⟩ := info_parts infoQInt
  obtain ⟨A, c, rfl⟩ := row_slice h.row
  have H := Lib.hid h
  clear h
  unfold eP
  go_enter Tryd.func9, Tryd.ntmps9
  go_wp2_with (fail)
  go_loopw [3, 4] (fun ov i wr => ∃ k : Nat, k ≤ L.length ∧ i = .int .i64 k ∧ wr.ownsRow w.heap.size 3 1 ov k (intsC ((L.take k).map (·.id))) ∧ Below w.heap.size w wr) (fun _ i _ => L.length - (intOf i).toNat)
  case atStart => exact ⟨0, Nat.zero_le _, rfl, World.ownsRow_nil _ _ _ _, Below.refl _ _⟩
  case round =>
    obtain ⟨k, hk, rfl, hO, hB⟩ := hrel
    have hR := H.out.below hB
    have c1 : wr.cell? ⟨p, 1, none⟩ = some (.slice A L.length c) := hR.blk.cell 1
    obtain ⟨OA, oc, rfl⟩ := own_slice hO
    have HO := Lib.hid hO
    have HB := Lib.hid hB
    clear hO hB
    by_cases hlt : k < L.length
    · have hkl : (k : Int) < L.length := by omega
      obtain ⟨g, rfl, e0, _⟩ := hR.at_ rfl hlt
      have hT : (L.take (k + 1)).map (·.id) = (L.take k).map (·.id) ++ [L[k].id] := by rw [List.take_succ_eq_append_getElem hlt, List.map_append]; rfl
      obtain ⟨x, hx⟩ : ∃ x, L[k] = x := ⟨_, rfl⟩
      rw [hx] at e0 hT
      have HT := Lib.hid hT
      clear hx hT hR
      go_wp2_with (first | (at_builtin; refine wpList_append_own _ rfl (.tmp 14) (.tmp 23) 35 rfl w.heap.size 3 i0 _ 1 8 Tryd.underlying35 hi0 hz0 hz1 hz2 rfl (by decide) (.slice OA k oc) k (intsC ((L.take k).map (·.id))) rfl (HO.out.alloc _) ⟨wr.heap.size, 0, none⟩ 1 1 [.int .i64 x.id] rfl rfl ?_ ?_ ?_ ?_ ?_ ?_; exact new_cells wr 3 [.int .i64 x.id]; (simp [Value.oneCell']); (unfold maxLen; omega); (omega); (have := HB.out.size; simp; omega); intro vq w3 hown3 hg3 _; have HO3 := Lib.hid hown3; have HB3 := Lib.hid ((HB.out.alloc HB.out.size _).grown hg3 (by have := HB.out.size; simp; omega) (fun b hb => own_base HO.out hb)); clear hown3 hg3) | fail)
      go_roundw
      case rel =>
        refine ⟨k + 1, by omega, by go_num, ?_, HB3.out⟩
        rw [HT.out, ints_snoc]
        exact HO3.out
      case measure => simp [intOf]; omega
    · obtain rfl : k = L.length := by omega
      go_wp2
      go_ret
      have hO := HO.out
      rw [List.take_length] at hO
      exact ⟨_, rfl, hO, HB.out⟩

def RE.idle (x : RE) : Bool := decide (x.is = 0)
set_option maxRecDepth 100000 in
set_option maxHeartbeats 4000000 in
theorem idlesR_calls {p : Nat} {room : Int} {v : Value} {L : List RE} (w : World) (h : RAt w p room v L) (hl : L.length ≤ 5864062014805) :
    Calls Tryd.prog 11 #[eP p] w
      fun e w' => ∃ v, e = .returned v ∧ w'.ownsRow w.heap.size 3 1 v (L.filter RE.idle).length (intsC ((L.filter RE.idle).map (·.id))) ∧ Below w.heap.size w w' := by
  obtain ⟨i0, hi0, hz0, hz1, hz2⟩ := info_parts infoQInt
  obtain ⟨A, c, rfl⟩ := row_slice h.row
  have H := Lib.hid h
  clear h
  unfold eP
  go_enter Tryd.func11, Tryd.ntmps11
  go_wp2_with (fail)
  go_loopw [3, 4] (fun ov i wr => ∃ k : Nat, k ≤ L.length ∧ i = .int .i64 k ∧ wr.ownsRow w.heap.size 3 1 ov ((L.take k).filter RE.idle).length (intsC (((L.take k).filter RE.idle).map (·.id))) ∧ Below w.heap.size w wr) (fun _ i _ => L.length - (intOf i).toNat)
  case atStart => exact ⟨0, Nat.zero_le _, rfl, World.ownsRow_nil _ _ _ _, Below.refl _ _⟩
  case round =>
    obtain ⟨k, hk, rfl, hO, hB⟩ := hrel
    have hR := H.out.below hB
    have c1 : wr.cell? ⟨p, 1, none⟩ = some (.slice A L.length c) := hR.blk.cell 1
    have hnl : ((L.take k).filter RE.idle).length ≤ k := Nat.le_trans (List.length_filter_le _ _) (by rw [List.length_take]; omega)
    obtain ⟨M, hM⟩ : ∃ M, (L.take k).filter RE.idle = M := ⟨_, rfl⟩
    rw [hM] at hO hnl
    obtain ⟨OA, oc, rfl⟩ := own_slice hO
    have HO := Lib.hid hO
    have HB := Lib.hid hB
    have HM := Lib.hid hM
    clear hO hB hM
    by_cases hlt : k < L.length
    · have hkl : (k : Int) < L.length := by omega
      obtain ⟨g, rfl, e0, _, e2, _⟩ := hR.at_ rfl hlt
      have hT : (L.take (k + 1)).filter RE.idle = M ++ (if L[k].idle then [L[k]] else []) := by rw [List.take_succ_eq_append_getElem hlt, List.filter_append, HM.out]; congr 1; rw [List.filter_cons]; split <;> rfl
      obtain ⟨x, hx⟩ : ∃ x, L[k] = x := ⟨_, rfl⟩
      rw [hx] at e0 e2 hT
      clear hx hR
      by_cases he : x.is = 0
      · rw [if_pos (show x.idle = true from decide_eq_true he)] at hT
        have HT := Lib.hid hT
        rw [he] at e2
        clear hT he
        go_wp2_with (first | (at_builtin; refine wpList_append_own _ rfl (.tmp 23) (.tmp 32) 35 rfl w.heap.size 3 i0 _ 1 8 Tryd.underlying35 hi0 hz0 hz1 hz2 rfl (by decide) (.slice OA M.length oc) M.length (intsC (M.map (·.id))) rfl (HO.out.alloc _) ⟨wr.heap.size, 0, none⟩ 1 1 [.int .i64 x.id] rfl rfl ?_ ?_ ?_ ?_ ?_ ?_; exact new_cells wr 3 [.int .i64 x.id]; (simp [Value.oneCell']); (unfold maxLen; omega); (omega); (have := HB.out.size; simp; omega); intro vq w3 hown3 hg3 _; have HO3 := Lib.hid hown3; have HB3 := Lib.hid ((HB.out.alloc HB.out.size _).grown hg3 (by have := HB.out.size; simp; omega) (fun b hb => own_base HO.out hb)); clear hown3 hg3) | fail)
        go_roundw
        case rel =>
          refine ⟨k + 1, by omega, by go_num, ?_, HB3.out⟩
          rw [HT.out, List.map_append, List.length_append]
          have := HO3.out
          rw [show intsC (M.map (·.id)) ++ [.int .i64 x.id] = intsC (M.map (·.id) ++ [x.id]) from (ints_snoc _ _).symm] at this
          exact this
        case measure => simp [intOf]; omega
      · rw [if_neg (by unfold RE.idle; simpa using he), List.append_nil] at hT
        have HT := Lib.hid hT
        have hne : (x.is == 0) = false := beq_eq_false_iff_ne.2 he
        clear hT he
        go_wp2
        go_roundw
        case rel => exact ⟨k + 1, by omega, by go_num, by rw [HT.out]; exact HO.out, HB.out⟩
        case measure => simp [intOf]; omega
    · obtain rfl : k = L.length := by omega
      have hm := HM.out
      rw [List.take_length] at hm
      have HM2 := Lib.hid hm
      clear hm
      go_wp2
      go_ret
      exact ⟨_, rfl, by rw [HM2.out]; exact HO.out, HB.out⟩

/-- A list without one place, as far as i. -/
def woG {α : Type} (M : List α) (r i : Nat) : List α := if r < i then (M.take i).eraseIdx r else M.take i
theorem woG_same {α : Type} {M : List α} {r : Nat} (hi : r < M.length) : woG M r (r + 1) = woG M r r := by
  unfold woG
  rw [if_pos (by omega), if_neg (by omega), List.take_succ_eq_append_getElem hi, List.eraseIdx_append_of_length_le (by rw [List.length_take]; omega), List.length_take, Nat.min_eq_left (by omega), Nat.sub_self]
  simp
theorem woG_other {α : Type} {M : List α} {r i : Nat} (hi : i < M.length) (h : i ≠ r) : woG M r (i + 1) = woG M r i ++ [M[i]] := by
  unfold woG
  by_cases hr : r < i
  · rw [if_pos (by omega), if_pos hr, List.take_succ_eq_append_getElem hi, List.eraseIdx_append_of_lt_length (by rw [List.length_take]; omega)]
  · rw [if_neg (by omega), if_neg hr, List.take_succ_eq_append_getElem hi]
theorem woG_len {α : Type} (M : List α) (r i : Nat) : (woG M r i).length ≤ i := by
  unfold woG
  split
  · exact Nat.le_trans (List.length_eraseIdx_le _ _) (by rw [List.length_take]; omega)
  · rw [List.length_take]; omega
theorem woG_at {α : Type} {M : List α} {k : Nat} (hk : k < M.length) : woG M k M.length = M.eraseIdx k := by
  unfold woG
  rw [if_pos hk, List.take_length]

/-- What Remove answers. -/
def RemvR (L L' : List RE) (id : Int) (ok : Bool) : Prop :=
  (ok = false ∧ L' = L ∧ ∀ e ∈ L, e.id ≠ id) ∨ ∃ (k : Nat) (hk : k < L.length), L[k].id = id ∧ ok = true ∧ L' = L.eraseIdx k
/-- A list's turn that may lay new blocks. -/
structure PutsR (w w' : World) (p : Nat) (room : Int) (v : Value) (L : List RE) (v' : Value) (L' : List RE) : Prop where
  at_ : RAt w' p room v' L'
  but : But w w' (OfR p v L)
  of : ∀ i, OfR p v' L' i → OfR p v L i ∨ w.heap.size ≤ i
theorem TouR.put {w w' : World} {p : Nat} {room : Int} {v : Value} {L L' : List RE} (h : TouR w w' p room v L L') : PutsR w w' p room v L v L' := ⟨h.at_, h.but, fun i hi => .inl (h.of i hi)⟩
theorem remv_put {w wr : World} {p : Nat} {room : Int} {v v' : Value} {L : List RE} {k : Nat} (h : RAt w p room v L) (hk : k < L.length) (hb : Below w.heap.size w wr) (hO : wr.ownsRow w.heap.size 66 4 v' (L.eraseIdx k).length ((L.eraseIdx k).flatMap RE.cs)) :
    PutsR w (wr.setCell ⟨p, 1, none⟩ v') p room v L v' (L.eraseIdx k) := by
  have h2 := h.below hb
  have hb3 : But wr (wr.setCell ⟨p, 1, none⟩ v') (fun i => i = p) := (But.refl wr (fun i => i = p)).setCell (p := ⟨p, 1, none⟩) (fun _ => rfl) v'
  have hsub : ∀ e ∈ L.eraseIdx k, e ∈ L := fun e he => (List.eraseIdx_sublist L k).mem he
  refine ⟨⟨h2.blk.set_ 1 v', own_but (row_weak hO (Nat.zero_le _)) hb3 (fun b hb' e => own_blk_ne hO h2.blk (by decide) (e ▸ hb')), fun e he => own_but (h2.keysR e (hsub e he)) hb3 (fun b hb' q => own_blk_ne (h2.keysR e (hsub e he)) h2.blk (by decide) (q ▸ hb'))⟩, ?_, fun i hi => ?_⟩
  · exact (But.of_below hb (OfR p v L)).trans hb3 (fun i _ e => .inl e)
  · rcases hi with rfl | hi | ⟨e, he, hi⟩
    · exact .inl (.inl rfl)
    · exact .inr (own_base hO hi)
    · exact .inl (.inr (.inr ⟨e, hsub e he, hi⟩))
def RemvRP (w : World) (p : Nat) (room : Int) (v : Value) (L : List RE) (id : Int) (e : Ending) (w' : World) : Prop := ∃ L' v' ok, e = .returned (.bool ok) ∧ RemvR L L' id ok ∧ PutsR w w' p room v L v' L'
set_option maxRecDepth 100000 in
set_option maxHeartbeats 4000000 in
theorem remvR_calls {p : Nat} {room : Int} {v : Value} {L : List RE} (id : Int) (w : World) (h : RAt w p room v L) (hl : L.length ≤ 2932031007400) :
    Calls Tryd.prog 34 #[eP p, .int .i64 id] w (RemvRP w p room v L id) := by
  obtain ⟨i0, hi0, hz0, hz1, hz2⟩ := info_parts infoRE
  have hf := findR_calls id w h (by omega)
  obtain ⟨A, c, rfl⟩ := row_slice h.row
  have H := Lib.hid h
  unfold eP at hf ⊢
  have HFD := Lib.hid hf
  clear h hf
  go_enter Tryd.func34, Tryd.ntmps34
  go_wp2_with (fail)
  refine HFD.out.mono ?_
  rintro e w2 ⟨r, rfl, hfr, hw2⟩
  subst hw2
  rcases hfr with ⟨rfl, hno⟩ | ⟨r, hrl, rfl, hid⟩
  · have HNO := Lib.hid hno
    clear hno
    go_wp2
    go_ret
    exact ⟨_, _, _, rfl, .inl ⟨rfl, rfl, HNO.out⟩, H.out, But.refl _ _, fun _ h => .inl h⟩
  · have HID := Lib.hid hid
    have hrl2 : (r : Int) < L.length := by omega
    clear hid
    go_wp2_with (fail)
    go_loopw [6, 7] (fun ov i wr => ∃ k : Nat, k ≤ L.length ∧ i = .int .i64 k ∧ wr.ownsRow w2.heap.size 66 4 ov (woG L r k).length ((woG L r k).flatMap RE.cs) ∧ Below w2.heap.size w2 wr) (fun _ i _ => L.length - (intOf i).toNat)
    case atStart => exact ⟨0, Nat.zero_le _, rfl, World.ownsRow_nil _ _ _ _, Below.refl _ _⟩
    case round =>
      obtain ⟨k, hk, rfl, hO, hB⟩ := hrel
      have hR := H.out.below hB
      have c1 : wr.cell? ⟨p, 1, none⟩ = some (.slice A L.length c) := hR.blk.cell 1
      have hnl := woG_len L r k
      obtain ⟨P, hP⟩ : ∃ P, woG L r k = P := ⟨_, rfl⟩
      rw [hP] at hO hnl
      obtain ⟨OA, oc, rfl⟩ := own_slice hO
      have HP := Lib.hid hP
      have HO := Lib.hid hO
      have HB := Lib.hid hB
      clear hO hB hP
      by_cases hlt : k < L.length
      · have hkl : (k : Int) < L.length := by omega
        by_cases hkr : k = r
        · subst hkr
          have HW := Lib.hid ((woG_same hlt).trans HP.out)
          go_wp2
          go_roundw
          case rel => exact ⟨k + 1, by omega, by go_num, by rw [HW.out]; exact HO.out, HB.out⟩
          case measure => simp [intOf]; omega
        · obtain ⟨g, rfl, e0, e1, e2, e3⟩ := hR.at_ rfl hlt
          have hW := woG_other hlt hkr
          rw [HP.out] at hW
          obtain ⟨x, hx⟩ : ∃ x, L[k] = x := ⟨_, rfl⟩
          rw [hx] at hW e0 e1 e2 e3
          have HW := Lib.hid hW
          have hne : ((k : Int) != (r : Int)) = true := by rw [bne_iff_ne]; omega
          clear hW hx hR hkr
          go_wp2_with (first | (at_builtin; refine wpList_append_wide_at _ rfl (.tmp 25) (.tmp 33) 42 rfl w2.heap.size 66 i0 _ 4 48 Tryd.underlying42 hi0 hz0 hz1 hz2 rfl (by decide) (.slice OA P.length oc) P.length (P.flatMap RE.cs) rfl (HO.out.alloc _) ⟨wr.heap.size, 0, none⟩ 1 1 x.cs rfl rfl ?_ ?_ ?_ ?_ ?_ ?_; exact new_cells wr 66 x.cs; (simp [RE.cs, Value.oneCell']); (unfold maxLen; omega); (omega); (have := HB.out.size; simp; omega); intro vq w3 hown3 hg3 _ hat3; obtain ⟨NA, nc, rfl⟩ := own_slice hown3; have HO3 := Lib.hid hown3; have HB3 := Lib.hid ((HB.out.alloc HB.out.size _).grown hg3 (by have := HB.out.size; simp; omega) (fun b hb => own_base HO.out hb)); clear hown3 hg3 hat3) | fail)
          go_roundw
          case rel =>
            refine ⟨k + 1, by omega, by go_num, ?_, HB3.out⟩
            rw [HW.out, List.length_append, List.flatMap_append]
            have := HO3.out
            simpa using this
          case measure => simp [intOf]; omega
      · obtain rfl : k = L.length := by omega
        have hp := HP.out
        rw [woG_at hrl] at hp
        have hO := HO.out
        rw [← hp] at hO
        have HPU := Lib.hid (remv_put H.out hrl HB.out hO)
        have fz : wr.frozen? ⟨p, 1, none⟩ = false := hR.blk.frozen 1
        have hpl : P.length = (L.eraseIdx r).length := by rw [hp]
        have HPL := Lib.hid hpl
        clear hp hO hR hpl
        go_wp2
        go_ret
        exact ⟨_, _, _, rfl, .inr ⟨r, hrl, HID.out, rfl, rfl⟩, by have := HPU.out; rw [← HPL.out] at this; exact this⟩
end Go.Proofs.YtmcknfpohnobdaaDoor
