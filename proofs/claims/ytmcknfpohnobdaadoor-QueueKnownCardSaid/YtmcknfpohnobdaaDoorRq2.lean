/- The document's queue: Touch, Take, Back. -/
import Derived.Test.YtmcknfpohnobdaaDoorRq1
namespace Go.Proofs.YtmcknfpohnobdaaDoor
set_option linter.unusedSimpArgs false
set_option linter.unusedVariables false
open Go.RowKit Go.MapKept Go.ChangeMaps Go.Maps

def RE.hit (x : RE) : RE := if x.is = 0 then { x with is := 1 } else if x.is = 2 then { x with tch := true } else x
def RE.touch (ks : List Key) (x : RE) : RE := if meets x.keys ks then x.hit else x
def touchR (L : List RE) (ks : List Key) (k : Nat) : List RE := (L.take k).map (RE.touch ks) ++ L.drop k
def freshR (L : List RE) (ks : List Key) : Nat := (L.filter (fun x => meets x.keys ks && decide (x.is = 0))).length
theorem touchR_len (L : List RE) (ks : List Key) (k : Nat) : (touchR L ks k).length = L.length := by unfold touchR; simp; omega
theorem touchR_zero (L : List RE) (ks : List Key) : touchR L ks 0 = L := by unfold touchR; simp
theorem touchR_all (L : List RE) (ks : List Key) : touchR L ks L.length = L.map (RE.touch ks) := by unfold touchR; simp
theorem touchR_get (L : List RE) (ks : List Key) {j : Nat} (hj : j < L.length) (h : j < (touchR L ks j).length) : (touchR L ks j)[j] = L[j] := by
  have h2 : (touchR L ks j)[j]? = some L[j] := by
    unfold touchR
    rw [List.getElem?_append_right (by simp; omega)]
    simp [Nat.min_eq_left (Nat.le_of_lt hj), hj]
  rw [List.getElem?_eq_getElem h] at h2
  exact Option.some.inj h2
theorem touchR_set (L : List RE) (ks : List Key) {j : Nat} (hj : j < L.length) : (touchR L ks j).set j (L[j].touch ks) = touchR L ks (j + 1) := by
  unfold touchR
  rw [List.set_append_right _ _ (by simp; omega), List.take_succ_eq_append_getElem hj, List.map_append, List.drop_eq_getElem_cons hj, List.append_assoc]
  simp only [List.length_map, List.length_take, Nat.min_eq_left (Nat.le_of_lt hj), Nat.sub_self, List.set_cons_zero, List.map_cons, List.map_nil, List.singleton_append]
theorem freshR_le (L : List RE) (ks : List Key) : freshR L ks ≤ L.length := List.length_filter_le _ _
theorem freshR_step (L : List RE) (ks : List Key) {j : Nat} (hj : j < L.length) : freshR (L.take (j + 1)) ks = freshR (L.take j) ks + (if (meets L[j].keys ks && decide (L[j].is = 0)) = true then 1 else 0) := by
  unfold freshR
  rw [List.take_succ_eq_append_getElem hj, List.filter_append, List.length_append]
  congr 1
  rw [List.filter_cons]
  split <;> rfl
theorem kv_touch (ks : List Key) (x : RE) : (x.touch ks).kv = x.kv ∧ (x.touch ks).keys = x.keys := by
  unfold RE.touch RE.hit
  split
  · split
    · exact ⟨rfl, rfl⟩
    · split <;> exact ⟨rfl, rfl⟩
  · exact ⟨rfl, rfl⟩
/-- A round of Touch. -/
structure TouR (w wr : World) (p : Nat) (room : Int) (v : Value) (L : List RE) (M : List RE) : Prop where
  at_ : RAt wr p room v M
  but : But w wr (OfR p v L)
  of : ∀ i, OfR p v M i → OfR p v L i
section
variable {w wr w2 : World} {p : Nat} {room : Int} {v : Value} {L M : List RE}
theorem TouR.below (h : TouR w wr p room v L M) (hb : Below wr.heap.size wr w2) : TouR w w2 p room v L M :=
  ⟨h.at_.below hb, h.but.trans (But.of_below hb (fun _ => False)) (fun _ _ h => h.elim), h.of⟩
theorem TouR.set (h : TouR w wr p room v L M) {g c : Nat} (hv : v = .slice (some ⟨g, 0, none⟩) M.length c) {k r : Nat} (hk : k < M.length) (u : Value) (y : RE) (hr : r < 4) (hy : y.cs = M[k].cs.set r u) (hkv : y.A = M[k].A ∧ y.keys = M[k].keys ∧ y.c = M[k].c) :
    TouR w (wr.setCell ⟨g, k * 4 + r, none⟩ u) p room v L (M.set k y) := by
  obtain ⟨h1, h2, h3⟩ := h.at_.set hv hk u y hr hy hkv
  exact ⟨h1, h.but.trans h2 (fun i _ e => h.of i (.inr (.inl (by rw [hv, e]; rfl)))), fun i hi => h.of i (h3 i hi)⟩
end
set_option maxRecDepth 100000 in
set_option maxHeartbeats 4000000 in
theorem touchR_calls {p : Nat} {room : Int} {v : Value} {L : List RE} (ks : List Key) (KA : Option Addr) (kc : Nat) (w : World) (h : RAt w p room v L)
    (hr : ∀ w', But w w' (OfR p v L) → Reads w' w'.heap.size 2 KA ks.length (keysC ks)) (hl : L.length ≤ 2305843009213693951) (hk : ks.length ≤ 2305843009213693951) (hkl : ∀ x ∈ L, x.keys.length ≤ 4611686018427387904) :
    Calls Tryd.prog 31 #[eP p, .slice KA ks.length kc] w
      fun e w' => e = .returned (.int .i64 (freshR L ks)) ∧ TouR w w' p room v L (L.map (RE.touch ks)) := by
  obtain ⟨A, c, rfl⟩ := row_slice h.row
  have H := Lib.hid h
  have HR := Lib.hid hr
  have HKL := Lib.hid hkl
  clear h hr hkl
  unfold eP
  go_enter Tryd.func31, Tryd.ntmps31
  go_wp2_with (fail)
  go_loopw [5, 6] (fun n i wr => ∃ k : Nat, k ≤ L.length ∧ i = .int .i64 k ∧ n = .int .i64 (freshR (L.take k) ks) ∧ TouR w wr p room (.slice A L.length c) L (touchR L ks k)) (fun _ i _ => L.length - (intOf i).toNat)
  case atStart => exact ⟨0, Nat.zero_le _, rfl, by simp [freshR], by rw [touchR_zero]; exact ⟨H.out, But.refl _ _, fun _ h => h⟩⟩
  case round =>
    obtain ⟨k, hk2, rfl, rfl, hT⟩ := hrel
    have c1 : wr.cell? ⟨p, 1, none⟩ = some (.slice A L.length c) := hT.at_.blk.cell 1
    by_cases hlt : k < L.length
    · have hkl : (k : Int) < L.length := by omega
      have hlen := touchR_len L ks k
      have hst := touchR_set L ks hlt
      have hfs := freshR_step L ks hlt
      have hfl := Nat.le_trans (freshR_le (L.take k) ks) (by rw [List.length_take]; exact Nat.min_le_left _ _)
      have hget := touchR_get L ks hlt (by omega)
      have hxk := HKL.out L[k] (List.getElem_mem hlt)
      obtain ⟨M, hM⟩ : ∃ M, touchR L ks k = M := ⟨_, rfl⟩
      have hget2 : ∀ h : k < M.length, M[k] = L[k] := fun h => by subst hM; exact hget
      obtain ⟨N, hN⟩ : ∃ N, freshR (L.take k) ks = N := ⟨_, rfl⟩
      rw [hM] at hT hlen hst
      rw [hN] at hfs hfl
      rw [hN]
      have hkM : k < M.length := by omega
      have hgx := hget2 hkM
      obtain ⟨x, hx⟩ : ∃ x, L[k] = x := ⟨_, rfl⟩
      rw [hx] at hst hfs hxk hgx
      obtain ⟨g, rfl, e0, e1, e2, e3⟩ := hT.at_.at_ (by rw [hlen]) hkM
      rw [hgx] at e1 e2 e3
      have hkr := Reads.of_own (hT.at_.keysR x (hgx ▸ List.getElem_mem hkM))
      have hmt := meets_calls x.keys ks x.A KA x.c kc wr hkr (HR.out wr hT.but) hxk (by omega)
      have HT := Lib.hid hT
      have HMT := Lib.hid hmt
      have HST := Lib.hid hst
      have HFS := Lib.hid hfs
      have HGX := Lib.hid hgx
      have HLEN := Lib.hid hlen
      clear hT hmt hst hfs hgx hlen hget hget2 hx hM hN hkr e0 hxk
      cases hm : meets x.keys ks with
      | false =>
        rw [hm] at HMT
        have hs : x.touch ks = x := by unfold RE.touch; rw [hm]; rfl
        have hst2 : touchR L ks (k + 1) = M := by rw [← HST.out, hs, ← HGX.out, List.set_getElem_self]
        have hfs2 : freshR (L.take (k + 1)) ks = N := by rw [HFS.out, hm]; simp
        have HS2 := Lib.hid hst2
        have HF2 := Lib.hid hfs2
        clear hs hst2 hfs2 hm
        go_wp2_with (fail)
        refine HMT.out.mono ?_
        rintro e w2 ⟨rfl, hb2⟩
        have HB2 := Lib.hid hb2
        clear hb2
        go_wp2
        go_roundw
        case rel => exact ⟨k + 1, by omega, by go_num, by rw [HF2.out], by rw [HS2.out]; exact HT.out.below HB2.out⟩
        case measure => simp [intOf]; omega
      | true =>
        rw [hm] at HMT
        have hs : x.touch ks = x.hit := by unfold RE.touch; rw [hm]; rfl
        by_cases hi0 : x.is = 0
        · have hh : x.hit = { x with is := 1 } := by unfold RE.hit; rw [if_pos hi0]
          have hfs2 : freshR (L.take (k + 1)) ks = N + 1 := by rw [HFS.out, hm, hi0]; simp
          have HF2 := Lib.hid hfs2
          have HI0 := Lib.hid hi0
          have HHH := Lib.hid (hs.trans hh)
          clear hs hh hfs2 hm
          rw [hi0] at e2
          clear hi0
          go_wp2_with (fail)
          refine HMT.out.mono ?_
          rintro e w2 ⟨rfl, hb2⟩
          have d1 := cell_below hb2 c1
          have d2 := cell_below hb2 e2
          have hT2 := HT.out.below hb2
          have f2 := row_frozen hT2.at_.row (k * 4 + 2)
          have HT2 := Lib.hid hT2
          clear hT2 hb2
          go_wp2
          go_roundw
          case rel =>
            refine ⟨k + 1, by omega, by go_num, by rw [HF2.out]; go_num, ?_⟩
            rw [← HST.out]
            exact HT2.out.set (by rw [HLEN.out]) hkM _ _ (by omega) (by rw [HHH.out, HGX.out]; rfl) (by rw [HHH.out, HGX.out]; exact ⟨rfl, rfl, rfl⟩)
          case measure => simp [intOf]; omega
        · have hfs2 : freshR (L.take (k + 1)) ks = N := by rw [HFS.out, decide_eq_false hi0]; simp
          have HF2 := Lib.hid hfs2
          clear hfs2 hm
          by_cases hi2 : x.is = 2
          · have hh : x.hit = { x with tch := true } := by unfold RE.hit; rw [if_neg hi0, if_pos hi2]
            have HHH := Lib.hid (hs.trans hh)
            clear hs hh
            rw [hi2] at e2
            clear hi0 hi2
            go_wp2_with (fail)
            refine HMT.out.mono ?_
            rintro e w2 ⟨rfl, hb2⟩
            have d1 := cell_below hb2 c1
            have d2 := cell_below hb2 e2
            have d3 := cell_below hb2 e3
            have hT2 := HT.out.below hb2
            have f3 := row_frozen hT2.at_.row (k * 4 + 3)
            have HT2 := Lib.hid hT2
            clear hT2 hb2
            go_wp2
            go_roundw
            case rel =>
              refine ⟨k + 1, by omega, by go_num, by rw [HF2.out], ?_⟩
              rw [← HST.out]
              exact HT2.out.set (by rw [HLEN.out]) hkM _ _ (by omega) (by rw [HHH.out, HGX.out]; rfl) (by rw [HHH.out, HGX.out]; exact ⟨rfl, rfl, rfl⟩)
            case measure => simp [intOf]; omega
          · have hh : x.hit = x := by unfold RE.hit; rw [if_neg hi0, if_neg hi2]
            have hst2 : touchR L ks (k + 1) = M := by rw [← HST.out, hs, hh, ← HGX.out, List.set_getElem_self]
            have HS2 := Lib.hid hst2
            clear hs hh hst2
            go_wp2_with (fail)
            refine HMT.out.mono ?_
            rintro e w2 ⟨rfl, hb2⟩
            have d1 := cell_below hb2 c1
            have d2 := cell_below hb2 e2
            have HB2 := Lib.hid hb2
            clear hb2
            go_wp2
            go_roundw
            case rel => exact ⟨k + 1, by omega, by go_num, by rw [HF2.out], by rw [HS2.out]; exact HT.out.below HB2.out⟩
            case measure => simp [intOf]; omega
    · obtain rfl : k = L.length := by omega
      rw [touchR_all] at hT
      rw [List.take_length]
      have HT := Lib.hid hT
      clear hT
      go_wp2
      go_ret
      exact ⟨rfl, HT.out⟩

/-- What Take answers. -/
def TakeR (L L' : List RE) (n : Int) (ok : Bool) : Prop :=
  (ok = false ∧ n = 0 ∧ L' = L ∧ ∀ e ∈ L, e.is ≠ 1) ∨
  ∃ (k : Nat) (hk : k < L.length), ok = true ∧ L[k].is = 1 ∧ (∀ j (hj : j < k), L[j].is ≠ 1) ∧ n = L[k].id ∧ L' = L.set k { L[k] with is := 2, tch := false }
def TakeRP (w : World) (p : Nat) (room : Int) (v : Value) (L : List RE) (e : Ending) (w' : World) : Prop := ∃ L' n ok, e = .returned (.tuple #[.int .i64 n, .bool ok]) ∧ TakeR L L' n ok ∧ TouR w w' p room v L L'
set_option maxRecDepth 100000 in
set_option maxHeartbeats 4000000 in
theorem takeR_calls {p : Nat} {room : Int} {v : Value} {L : List RE} (w : World) (h : RAt w p room v L) (hl : L.length ≤ 2305843009213693951) :
    Calls Tryd.prog 32 #[eP p] w
      (TakeRP w p room v L) := by
  obtain ⟨A, c, rfl⟩ := row_slice h.row
  have c1 : w.cell? ⟨p, 1, none⟩ = some (.slice A L.length c) := h.blk.cell 1
  have H := Lib.hid h
  clear h
  unfold eP
  go_enter Tryd.func32, Tryd.ntmps32
  go_wp2_with (fail)
  go_loopw [4] (fun i wr => ∃ k : Nat, k ≤ L.length ∧ i = .int .i64 k ∧ (∀ j (hj : j < L.length), j < k → L[j].is ≠ 1) ∧ wr = w) (fun i _ => L.length - (intOf i).toNat)
  case atStart => exact ⟨0, Nat.zero_le _, rfl, fun j _ hj => by omega, rfl⟩
  case round =>
    obtain ⟨k, hk, rfl, hno, hwr⟩ := hrel
    subst hwr
    have HNO := Lib.hid hno
    clear hno
    by_cases hlt : k < L.length
    · have hkl : (k : Int) < L.length := by omega
      obtain ⟨g, rfl, e0, e1, e2, e3⟩ := H.out.at_ rfl hlt
      obtain ⟨x, hx⟩ : ∃ x, L[k] = x := ⟨_, rfl⟩
      rw [hx] at e0 e2 e3
      have HX := Lib.hid hx
      have f2 := row_frozen H.out.row (k * 4 + 2)
      have f3 := row_frozen H.out.row (k * 4 + 3)
      have hT0 : TouR wr wr p room (.slice (some ⟨g, 0, none⟩) L.length c) L L := ⟨H.out, But.refl _ _, fun _ h => h⟩
      have hT1 := hT0.set rfl hlt (r := 2) (.int .i64 2) { L[k] with is := 2 } (by omega) rfl ⟨rfl, rfl, rfl⟩
      have hg1 : (L.set k { L[k] with is := 2 })[k]'(by simpa using hlt) = { L[k] with is := 2 } := by simp
      have hT2 := hT1.set (g := g) (c := c) (by simp) (by simpa using hlt) (r := 3) (.bool false) { L[k] with is := 2, tch := false } (by omega) (by rw [hg1]; rfl) (by rw [hg1]; exact ⟨rfl, rfl, rfl⟩)
      rw [List.set_set] at hT2
      have HT2 := Lib.hid hT2
      clear hx hT0 hT1 hg1 hT2 e1
      by_cases he : x.is = 1
      · have HEI := Lib.hid he
        rw [he] at e2
        clear he
        go_wp2
        go_ret2
        refine ⟨L.set k { L[k] with is := 2, tch := false }, _, _, rfl, .inr ⟨k, hlt, rfl, ?_, fun j hj => HNO.out j (by omega) hj, ?_, rfl⟩, HT2.out⟩
        · rw [HX.out]; exact HEI.out
        · rw [HX.out]
      · have HEI := Lib.hid he
        go_wp2
        go_roundw
        case rel =>
          refine ⟨k + 1, by omega, by go_num, fun j hj hjk => ?_, by first | rfl | trivial⟩
          by_cases hjk2 : j = k
          · subst hjk2; rw [HX.out]; exact HEI.out
          · exact HNO.out j hj (by omega)
        case measure => simp [intOf]; omega
    · obtain rfl : k = L.length := by omega
      have hn : ∀ e ∈ L, e.is ≠ 1 := fun e he => by
        obtain ⟨i, hi, rfl⟩ := List.getElem_of_mem he
        exact HNO.out i hi hi
      have HN := Lib.hid hn
      clear hn
      go_wp2
      go_ret2
      exact ⟨L, _, _, rfl, .inl ⟨rfl, rfl, rfl, HN.out⟩, H.out, But.refl _ _, fun _ h => h⟩

/-- What Back answers. -/
def BackR (L L' : List RE) (id : Int) (ok : Bool) : Prop :=
  (ok = false ∧ L' = L ∧ ((∀ e ∈ L, e.id ≠ id) ∨ ∃ (k : Nat) (hk : k < L.length), L[k].id = id ∧ L[k].is ≠ 2)) ∨
  ∃ (k : Nat) (hk : k < L.length), L[k].id = id ∧ L[k].is = 2 ∧ ok = L[k].tch ∧ L' = L.set k { L[k] with is := if L[k].tch then 1 else 0 }
set_option maxRecDepth 100000 in
set_option maxHeartbeats 4000000 in
theorem backR_calls {p : Nat} {room : Int} {v : Value} {L : List RE} (id : Int) (w : World) (h : RAt w p room v L) (hl : L.length ≤ 2305843009213693951) :
    Calls Tryd.prog 33 #[eP p, .int .i64 id] w
      fun e w' => ∃ L' ok, e = .returned (.bool ok) ∧ BackR L L' id ok ∧ TouR w w' p room v L L' := by
  have hf := findR_calls id w h (by omega)
  obtain ⟨A, c, rfl⟩ := row_slice h.row
  have c1 : w.cell? ⟨p, 1, none⟩ = some (.slice A L.length c) := h.blk.cell 1
  have H := Lib.hid h
  unfold eP at hf ⊢
  have HFD := Lib.hid hf
  clear h hf
  go_enter Tryd.func33, Tryd.ntmps33
  go_wp2_with (fail)
  refine HFD.out.mono ?_
  rintro e w2 ⟨r, rfl, hfr, hw2⟩
  subst hw2
  rcases hfr with ⟨rfl, hno⟩ | ⟨k, hlt, rfl, hid⟩
  · have HNO := Lib.hid hno
    clear hno
    go_wp2
    go_ret
    exact ⟨_, _, rfl, .inl ⟨rfl, rfl, .inl HNO.out⟩, H.out, But.refl _ _, fun _ h => h⟩
  · have hkl : (k : Int) < L.length := by omega
    obtain ⟨g, rfl, e0, e1, e2, e3⟩ := H.out.at_ rfl hlt
    obtain ⟨x, hx⟩ : ∃ x, L[k] = x := ⟨_, rfl⟩
    have HID := Lib.hid hid
    rw [hx] at e2 e3
    have HX := Lib.hid hx
    have f2 := row_frozen H.out.row (k * 4 + 2)
    have hT0 : TouR w2 w2 p room (.slice (some ⟨g, 0, none⟩) L.length c) L L := ⟨H.out, But.refl _ _, fun _ h => h⟩
    have hT1 := hT0.set rfl hlt (r := 2) (.int .i64 0) { L[k] with is := 0 } (by omega) rfl ⟨rfl, rfl, rfl⟩
    have hg1 : (L.set k { L[k] with is := 0 })[k]'(by simpa using hlt) = { L[k] with is := 0 } := by simp
    have hT2 := hT1.set (g := g) (c := c) (by simp) (by simpa using hlt) (r := 2) (.int .i64 1) { L[k] with is := 1 } (by omega) (by rw [hg1]; rfl) (by rw [hg1]; exact ⟨rfl, rfl, rfl⟩)
    rw [List.set_set] at hT2
    have HT1 := Lib.hid hT1
    have HT2 := Lib.hid hT2
    clear hx hT0 hT1 hg1 hT2 e0 e1 hid
    by_cases he : x.is = 2
    · have HEI := Lib.hid he
      rw [he] at e2
      clear he
      cases ht : x.tch with
      | true =>
        rw [ht] at e3
        have HTC := Lib.hid ht
        clear ht
        go_wp2
        go_ret
        exact ⟨_, _, rfl, .inr ⟨k, hlt, HID.out, by rw [HX.out]; exact HEI.out, by rw [HX.out, HTC.out], by rw [HX.out, HTC.out]; first | done | rfl⟩, by have := HT2.out; rw [HX.out] at this; exact this⟩
      | false =>
        rw [ht] at e3
        have HTC := Lib.hid ht
        clear ht
        go_wp2
        go_ret
        exact ⟨_, _, rfl, .inr ⟨k, hlt, HID.out, by rw [HX.out]; exact HEI.out, by rw [HX.out, HTC.out], by rw [HX.out, HTC.out]; first | done | rfl⟩, by have := HT1.out; rw [HX.out] at this; exact this⟩
    · have HEI := Lib.hid he
      have hne : (x.is != 2) = true := bne_iff_ne.2 he
      clear he
      go_wp2
      go_ret
      exact ⟨_, _, rfl, .inl ⟨rfl, rfl, .inr ⟨k, hlt, HID.out, by rw [HX.out]; exact HEI.out⟩⟩, H.out, But.refl _ _, fun _ h => h⟩
end Go.Proofs.YtmcknfpohnobdaaDoor
