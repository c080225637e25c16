/- Store: slices.SortFunc at keys, by the library's contract. -/
import Derived.Test.YtflkddllofeiaaaGreatDoorS9
import Derived.Test.YtflkddllofeiaaaGreatDoorSort
import Derived.Test.YtflkddllofeiaaaGreatDoorSortKeys
import Derived.Shelf.SlSortCmp.NoneTotal
namespace Go.Proofs.YtflkddllofeiaaaGreatDoor
set_option linter.unusedSimpArgs false
set_option linter.unusedVariables false
open Go.RowKit Go.MapKept Go.ChangeMaps Go.Maps Go.Sort

instance : Inhabited Key := ⟨⟨0, 0⟩⟩
theorem ltOfK (x y : Key) : ltOf cmpK x y = decide (ltK x y) := by
  unfold ltOf
  rw [Bool.eq_iff_iff]
  simp [cmpK_lt]
theorem ltOf_t {x y : Key} : ltOf cmpK x y = true ↔ ltK x y := by rw [ltOfK]; exact decide_eq_true_iff
theorem ltOf_f {x y : Key} : ltOf cmpK x y = false ↔ ¬ ltK x y := by rw [ltOfK]; exact decide_eq_false_iff_not
theorem ltK_swo : SWO (ltOf cmpK) where
  irrefl x := ltOf_f.2 (by unfold ltK; omega)
  trans x y z h1 h2 := by rw [ltOf_t] at *; unfold ltK at *; omega
  ntrans x y z h1 h2 := by rw [ltOf_f] at *; unfold ltK at *; omega
theorem ltK_total (x y : Key) (h1 : ltOf cmpK x y = false) (h2 : ltOf cmpK y x = false) : x = y := by
  rw [ltOf_f] at *
  unfold ltK at *
  have h3 : x.acc = y.acc := by omega
  have h4 : x.ast = y.ast := by omega
  cases x; cases y
  simp_all
theorem key_isAgg (w : World) : (isAgg (sortKeys_ren.t 24)).run Tryz.prog w = .ok true w := by kernel_rfl
theorem infoKeyS : (Tryz.prog.info? 33).map (fun i => (i.zero, i.size, i.bytes)) = some (some (.agg #[.int .i64 0, .int .i64 0]), 2, 16) := by kernel_rfl
theorem key_size (w : World) : (Go.sizeOf (sortKeys_ren.t 24)).run Tryz.prog w = .ok 2 w := by
  obtain ⟨j, hj, _, hs, _⟩ := info_parts infoKeyS
  show (Go.sizeOf 33).run Tryz.prog w = .ok 2 w
  simp [sizeOf, typeInfo, hj, hs, go_sem]
theorem sort_none (p : Option Addr) (c : Nat) (fv : Value) (w : World) : Calls Tryz.prog 43 #[.slice p 0 c, fv] w fun e w' => e = .returned (.tuple #[]) ∧ w' = w :=
  AnyF.slices_SortFunc_none sortKeys p c fv w
theorem keyCs_one (x : Key) : ∀ v ∈ x.cs, v.oneCell' = true := by
  intro v hv
  simp only [Key.cs, List.mem_cons, List.not_mem_nil, or_false] at hv
  rcases hv with rfl | rfl <;> rfl
/-- The keys in their order. -/
def srtK (l : List Key) : List Key := l.mergeSort (fun x y => !ltOf cmpK y x)
theorem srtK_perm (l : List Key) : (srtK l).Perm l := List.mergeSort_perm l _
theorem srtK_len (l : List Key) : (srtK l).length = l.length := (srtK_perm l).length_eq
theorem srtK_up {l : List Key} (hn : l.Nodup) : (srtK l).Pairwise ltK := by
  have h1 : (srtK l).Pairwise (fun x y => (!ltOf cmpK y x) = true) := List.pairwise_mergeSort (fun a b c h1 h2 => by
    rw [Bool.not_eq_true', ltOf_f] at *
    unfold ltK at *
    omega) (fun a b => by
    rw [Bool.or_eq_true, Bool.not_eq_true', Bool.not_eq_true', ltOf_f, ltOf_f]
    unfold ltK
    omega) l
  have h2 : (srtK l).Pairwise (fun x y => x ≠ y) := (srtK_perm l).nodup_iff.2 hn
  refine (h1.and h2).imp (fun {x y} h => ?_)
  obtain ⟨h3, h4⟩ := h
  rw [Bool.not_eq_true', ltOf_f] at h3
  have : ¬ (x.acc = y.acc ∧ x.ast = y.ast) := fun e => h4 (by cases x; cases y; simp_all)
  unfold ltK at *
  omega
theorem sort_some (l : List Key) (base g c : Nat) (w : World) (h : w.ownsRow base 33 2 (.slice (some ⟨g, 0, none⟩) l.length c) l.length (keysC l)) (hl : l.length < 4611686018427387904) :
    Calls Tryz.prog 43 #[.slice (some ⟨g, 0, none⟩) l.length c, .func (.func 44) #[] #[]] w
      fun e w' => e = .returned (.tuple #[]) ∧ w'.ownsRow base 33 2 (.slice (some ⟨g, 0, none⟩) l.length c) l.length (keysC (srtK l)) ∧ But w w' (fun i => i = g) := by
  have hk : ∀ x : Key, x.cs.length = 2 := fun _ => rfl
  have hg : g < w.heap.size := own_lt h rfl
  have eg : ∀ args w, (callFunc 44 args).run Tryz.prog w = .ok (.enter 44 args) w := enters_of Tryz.func44 (by kernel_rfl) rfl
  have hcon := Go.Proofs.AnyQ.slices_SortFunc_total sortKeys 2 key_isAgg key_size Key.cs hk keyCs_one cmpK ltK_swo 44 #[] g 0 c l.toArray w eg (fun _ _ _ _ x y => keyCmp_calls x y _) (own_holds hk h) hg (by simpa using hl) ltK_total
  rw [show l.toArray.size = l.length by simp] at hcon
  refine Calls.mono (show Calls Tryz.prog 43 _ _ _ from hcon) ?_
  rintro e w' ⟨he, n, os, hw⟩
  obtain ⟨h1, h2, h3, h4, h5, h6⟩ := own_sorted (w' := w') hk keyCs_one h (srtK_len l) (n := n) (os := os) (by rw [hw]; rfl)
  rw [srtK_len] at h1
  exact ⟨he, h1, ⟨h2, h3, h4, h5, h6⟩⟩
end Go.Proofs.YtflkddllofeiaaaGreatDoor

/- Store: Keys. -/
namespace Go.Proofs.YtflkddllofeiaaaGreatDoor
open Go.RowKit Go.MapKept Go.ChangeMaps Go.Maps

theorem own_iter_ne {K V : Type} {ek : K → Value} {ev : V → Value} {w : World} {base s n b r : Nat} {t : TypeId} {v : Value} {xs : List Value} {M Lf : List (K × V)} (h : w.ownsRow base t s v n xs) (hr : RngT ek ev w b r M Lf) : v.ownBlock ≠ some r := by
  intro hi
  obtain ⟨es, clock, since, seen, c0, _, _, _, h4, _⟩ := hr
  rcases h.2 with h0 | ⟨g, cap, cur, rfl, h1, h2, h3⟩
  · rw [h0.1] at hi; cases hi
  · cases hi
    rw [h4] at h2
    cases h2
theorem RngT.but {K V : Type} {ek : K → Value} {ev : V → Value} {w w' : World} {b r : Nat} {M Lf : List (K × V)} {S : Nat → Prop} (h : RngT ek ev w b r M Lf) (hb : But w w' S) (h1 : ¬ S b) (h2 : ¬ S r) : RngT ek ev w' b r M Lf :=
  h.of_blocks (hb.block b h.map.lt h1) (hb.block r h.lt h2)
theorem own_none {w : World} {base s n c : Nat} {e : TypeId} {xs : List Value} (h : w.ownsRow base e s (.slice none n c) n xs) : n = 0 ∧ c = 0 := by
  rcases h.2 with ⟨h, _⟩ | ⟨g, cap, cur, h, _⟩
  · injection h with _ h1 h2; exact ⟨h1, h2⟩
  · injection h with h _; cases h
theorem own_block {w : World} {base s n c : Nat} {e : TypeId} {ad : Addr} {xs : List Value} (h : w.ownsRow base e s (.slice (some ad) n c) n xs) : ∃ g, ad = ⟨g, 0, none⟩ := by
  rcases h.2 with ⟨h, _⟩ | ⟨g, cap, cur, h, _⟩
  · injection h with h _; cases h
  · injection h with h _; injection h with h; exact ⟨g, h⟩
def KeysSQ (w : World) (s : StV) (e : Ending) (w' : World) : Prop :=
  ∃ v l, e = .returned v ∧ w'.ownsRow w.heap.size 33 2 v l.length (keysC l) ∧ l.Perm (s.rows.map (·.1)) ∧ l.Pairwise ltK ∧ Below w.heap.size w w'
theorem rows_keys (s : StV) : s.rows.map (·.1) = s.chs.map (·.1) := by unfold StV.rows; rw [List.map_map]; rfl
set_option maxRecDepth 100000 in
set_option maxHeartbeats 2000000 in
theorem keysS_calls (s : StV) (w : World) (h : StAt w s) (hv : s.chs.length ≤ 7000000000000) : Calls Tryz.prog 12 #[.pointer (some ⟨s.p, 0, none⟩)] w (KeysSQ w s) := by
  obtain ⟨i0, hi0, hz0, hz1, hz2⟩ := info_parts infoKeyS
  have c0 : w.cell? ⟨s.p, 0, none⟩ = some (.slice (some ⟨s.gs, 0, none⟩) s.n s.n) := h.blk.cell 0
  have H := Lib.hid h
  have hn := h.n1
  have hlen : s.S.length = s.n := h.len
  have HLEN := Lib.hid hlen
  clear h hlen
  go_enter Tryz.func12, Tryz.ntmps12
  go_wp2_with (fail)
  go_loopw [3, 12] (fun v i wr => ∃ (k : Nat) (l : List Key), k ≤ s.n ∧ i = .int .i64 k ∧ wr.ownsRow w.heap.size 33 2 v l.length (keysC l) ∧ l.Perm ((s.S.take k).flatten.map (·.1)) ∧ Below w.heap.size w wr) (fun _ i _ => s.n - (intOf i).toNat)
  case atStart => exact ⟨0, [], by omega, rfl, World.ownsRow_nil _ _ _ _, List.Perm.refl _, Below.refl _ _⟩
  case round =>
    obtain ⟨k, l, hk, rfl, hown, hperm, hb⟩ := hrel
    by_cases hlt : k < s.n
    · have hkl : (k : Int) < s.n := by omega
      have hks : k < s.S.length := by rw [HLEN.out]; exact hlt
      have hkm : k < s.ms.length := hlt
      have hw := H.out.below hb
      have cm : wr.cell? ⟨s.gs, k, none⟩ = some (.map (some s.ms[k])) := (hw.row.cell k).trans (by simp [eM, hkm])
      obtain ⟨W2, hrange, hR, hb2, hs2⟩ := (mapT_ch (hw.maps k hkm hks)).range (P := Tryz.prog) Tryz.underlying59
      have hmo : s.ms[k] < w.heap.size := (H.out.maps k hkm hks).lt
      obtain ⟨r, hr⟩ : ∃ r, wr.heap.size = r := ⟨_, rfl⟩
      obtain ⟨m, hm⟩ : ∃ m, s.ms[k] = m := ⟨_, rfl⟩
      rw [hm] at cm hrange hR hmo
      rw [hr] at hrange hR
      have hT : (s.S.take (k + 1)).flatten.map (·.1) = (s.S.take k).flatten.map (·.1) ++ s.S[k].map (·.1) := by rw [List.take_succ_eq_append_getElem hks, List.flatten_append]; simp
      have hle1 : ((s.S.take k).flatten.map (·.1)).length + (s.S[k].map (·.1)).length ≤ s.chs.length := by
        unfold StV.chs
        rw [flat_at hks]
        simp only [List.length_append, List.length_map]
        omega
      have hown2 := own_but hown (But.of_below hb2 (fun _ => False)) (fun _ _ h => h)
      obtain ⟨A, hA⟩ : ∃ A, (s.S.take k).flatten.map (·.1) = A := ⟨_, rfl⟩
      rw [hA] at hle1 hperm hT
      have HT := Lib.hid hT
      have HR := Lib.hid hR
      have HB2 := Lib.hid (hb.trans (hb2.mono hb.size))
      have HO2 := Lib.hid hown2
      have HRS : Hid (w.heap.size ≤ r) := by have := hb.size; show _ ≤ _; omega
      have HPM := Lib.hid hperm
      clear hw hb2 hs2 hr hm hT hA hR hb hown hown2 hperm
      go_wp2_with (fail)
      go_loopw [3] (fun v wr => ∃ (l2 : List Key) (left : List (Key × Ch)), RngT eK eC wr m r s.S[k] left ∧ (l2 ++ left.map (·.1)).Perm (A ++ s.S[k].map (·.1)) ∧ wr.ownsRow w.heap.size 33 2 v l2.length (keysC l2) ∧ Below w.heap.size w wr) (fun _ wr => wr.rangeLeft m r)
      case atStart => exact ⟨l, _, HR.out, HPM.out.append_right _, HO2.out, HB2.out⟩
      case round =>
        obtain ⟨l2, left, hR, hp, hown, hb⟩ := hrel
        have hle := hR.left_eq
        rcases hR.next (P := Tryz.prog) 0 with ⟨rfl, hnext⟩ | ⟨a, x, y, c, W3, rfl, hnext, hR3, hg3, hs3, hent⟩
        · rw [List.map_nil, List.append_nil, ← HT.out] at hp
          have HP := Lib.hid hp
          have HO := Lib.hid hown
          have HB := Lib.hid hb
          clear hR hle hp hb hown
          go_wp2_with (fail)
          go_roundw
          case rel => exact ⟨k + 1, l2, by omega, by go_num, HO.out, HP.out, HB.out⟩
          case measure => simp [intOf]; omega
        · unfold eK eC eP at hnext hent
          have hb3 : Below w.heap.size w W3 := hb.trans ((grown_but hg3).to_below (fun i hi => by rw [hi]; exact HRS.out) hb.size)
          have hown3 := own_but hown (grown_but hg3) (fun b hb' e => own_iter_ne hown hR (e ▸ hb'))
          have hlen2 : l2.length + 1 ≤ s.chs.length := by
            have := hp.length_eq
            simp only [List.length_append, List.length_map, List.length_cons] at this hle1
            omega
          have hp2 : ((l2 ++ [x]) ++ (a ++ c).map (·.1)).Perm (A ++ s.S[k].map (·.1)) := by
            refine List.Perm.trans ?_ hp
            rw [List.append_assoc, List.map_append, List.map_append, List.map_cons]
            refine List.Perm.append_left l2 ?_
            show (x :: (a.map (·.1) ++ c.map (·.1))).Perm _
            exact List.perm_middle.symm
          obtain ⟨VA, vc, rfl⟩ := own_slice hown3
          have hstep : ∀ (o1 o2 : Obj) (v5 : Value) (w5 : World), ((W3.alloc o1).alloc o2).grownBy w5 (Value.slice VA l2.length vc).ownBlock → w5.ownsRow w.heap.size 33 2 v5 (l2.length + 1) (keysC l2 ++ [.int .i64 x.acc, .int .i64 x.ast]) →
              RngT eK eC w5 m r s.S[k] (a ++ c) ∧ w5.ownsRow w.heap.size 33 2 v5 (l2 ++ [x]).length (keysC (l2 ++ [x])) ∧ Below w.heap.size w w5 := fun o1 o2 v5 w5 hg5 ho5 => by
            have hb5 : But W3 w5 (fun i => (Value.slice VA l2.length vc).ownBlock = some i) := (((But.refl W3 _).alloc o1).alloc o2).grown hg5 (fun i _ e => e)
            refine ⟨hR3.but hb5 (fun e => ?_) (fun e => own_iter_ne hown3 hR3 e), ?_, hb3.trans (hb5.to_below (fun i e => own_base hown3 e) hb3.size)⟩
            · have := own_base hown3 e; omega
            · rw [List.length_append, keysC, List.flatMap_append]
              exact ho5
          have HST := Lib.hid hstep
          have HB3 := Lib.hid hb3
          have HO3 := Lib.hid hown3
          have HP2 := Lib.hid hp2
          have HLE : Hid (wr.rangeLeft m r = a.length + c.length + 1) := by show _ = _; rw [hle]; simp; omega
          clear hR hle hp hb hR3 hb3 hg3 hs3 hown hown3 hp2 hstep
          go_wp2_with ((at_builtin; refine wpList_append_wide_at _ rfl (.tmp 22) (.tmp 24) 40 rfl w.heap.size 33 i0 _ 2 16 Tryz.underlying40 hi0 hz0 hz1 hz2 rfl (by decide) (.slice VA l2.length vc) l2.length (keysC l2) rfl ((HO3.out.alloc _).alloc _) ⟨W3.heap.size + 1, 0, none⟩ 1 1 [.int .i64 x.acc, .int .i64 x.ast] rfl rfl ?_ ?_ ?_ ?_ ?_ ?_); (have hnc := new_cells (W3.alloc (.cells #[.int .i64 x.acc, .int .i64 x.ast] 33)) 33 [.int .i64 x.acc, .int .i64 x.ast]; rw [show (W3.alloc (.cells #[.int .i64 x.acc, .int .i64 x.ast] 33)).heap.size = W3.heap.size + 1 by simp] at hnc; exact hnc); (simp [Value.oneCell']); (unfold maxLen; omega); (omega); (have := HB3.out.size; simp; omega); intro v5 w5 hown5 hg5 _ _; have H5 := Lib.hid (HST.out _ _ v5 w5 hg5 hown5); clear hown5 hg5)
          go_roundw
          case rel => exact ⟨l2 ++ [x], _, H5.out.1, HP2.out, H5.out.2.1, H5.out.2.2⟩
          case measure => rw [H5.out.1.left_eq, HLE.out]; simp
    · obtain rfl : k = s.n := by omega
      have hall : s.S.take s.n = s.S := by rw [← HLEN.out]; exact List.take_length
      rw [hall] at hperm
      have hch : l.Perm (s.rows.map (·.1)) := by rw [rows_keys]; exact hperm
      have hnd : l.Nodup := by
        rw [hperm.nodup_iff]
        exact H.out.kn
      have hll : l.length ≤ 7000000000000 := by
        have := hperm.length_eq
        simp only [List.length_map] at this
        unfold StV.chs at hv
        omega
      obtain ⟨VA, vc, rfl⟩ := own_slice hown
      cases VA with
      | none =>
        obtain ⟨h0, rfl⟩ := own_none hown
        obtain rfl : l = [] := List.eq_nil_of_length_eq_zero h0
        have hfin : KeysSQ w s (.returned (.slice none 0 0)) wr := ⟨_, [], rfl, hown, hch, List.Pairwise.nil, hb⟩
        have HFIN := Lib.hid hfin
        have hso := sort_none none 0 (.func (.func 44) #[] #[]) wr
        have HSO := Lib.hid hso
        clear hown hperm hb hall hch hnd hfin hso
        go_wp2_with (fail)
        refine HSO.out.mono ?_
        rintro e wr ⟨rfl, rfl⟩
        go_wp2
        go_ret
        exact HFIN.out
      | some ad =>
        obtain ⟨g, rfl⟩ := own_block hown
        have hso := sort_some l w.heap.size g vc wr hown (by omega)
        have hfin : ∀ w5, w5.ownsRow w.heap.size 33 2 (.slice (some ⟨g, 0, none⟩) l.length vc) l.length (keysC (srtK l)) → But wr w5 (fun i => i = g) → KeysSQ w s (.returned (.slice (some ⟨g, 0, none⟩) l.length vc)) w5 := fun w5 ho hb5 =>
          ⟨_, srtK l, rfl, by rw [srtK_len]; exact ho, (srtK_perm l).trans hch, srtK_up hnd, hb.trans (hb5.to_below (fun i e => e ▸ own_base hown rfl) hb.size)⟩
        have HFIN := Lib.hid hfin
        have HSO := Lib.hid hso
        clear hown hperm hb hall hch hnd hfin hso
        go_wp2_with (fail)
        refine HSO.out.mono ?_
        rintro e w5 ⟨rfl, ho, hb5⟩
        have HF := Lib.hid (HFIN.out w5 ho hb5)
        clear ho hb5
        go_wp2
        go_ret
        exact HF.out
end Go.Proofs.YtflkddllofeiaaaGreatDoor
