/- The document's queue: Put. -/
import Derived.Test.YtmcknfpohnobdaaDoorRq3
import Derived.Test.YtmcknfpohnobdaaDoorScr0
import Derived.Test.YtmcknfpohnobdaaDoorWideR
import Derived.Deep.RegionHeld3
namespace Go.Proofs.YtmcknfpohnobdaaDoor
set_option linter.unusedSimpArgs false
set_option linter.unusedVariables false
open Go.RowKit Go.MapKept Go.ChangeMaps Go.Maps

noncomputable def putRN (L : List RE) (room id : Int) : Int := if (∃ e ∈ L, e.id = id) then 11 else if room ≤ L.length then 20 else 0
/-- The row has grown, and it is stored. -/
theorem put_puts {w w2 w3 : World} {o : Obj} {p : Nat} {room : Int} {v v' : Value} {L : List RE} (y : RE) (h : RAt w p room v L) (hb : Below w.heap.size w w2) (hK : w2.ownsRow w.heap.size 48 2 y.kv y.keys.length (keysC y.keys))
    (hO : w3.ownsRow 0 66 4 v' (L.length + 1) (L.flatMap RE.cs ++ y.cs)) (hg : (w2.alloc o).grownBy w3 v.ownBlock) (hat : v'.ownBlock = v.ownBlock ∨ v'.ownBlock = some (w2.alloc o).heap.size) :
    PutsR w (w3.setCell ⟨p, 1, none⟩ v') p room v L v' (L ++ [y]) := by
  have hb3 : But w w3 (fun i => v.ownBlock = some i) := ((But.of_below hb _).alloc o).grown hg (fun i _ e => e)
  have hb23 : But w2 w3 (fun i => v.ownBlock = some i) := ((But.refl w2 _).alloc o).grown hg (fun i _ e => e)
  have b3 := h.blk.but hb3 (own_blk_ne h.row h.blk (by decide))
  have hbp : But w3 (w3.setCell ⟨p, 1, none⟩ v') (fun i => i = p) := (But.refl w3 (fun i => i = p)).setCell (p := ⟨p, 1, none⟩) (fun _ => rfl) v'
  have hall : ∀ e ∈ L ++ [y], w3.ownsRow 0 48 2 e.kv e.keys.length (keysC e.keys) := by
    intro e he
    rcases List.mem_append.1 he with he | he
    · exact own_but (h.keysR e he) hb3 (fun b hb' q => own_own_ne (h.keysR e he) h.row (by decide) hb' q)
    · rw [List.mem_singleton.1 he]
      exact own_but (row_weak hK (Nat.zero_le _)) hb23 (fun b hb' q => own_own_ne hK (own_but h.row (But.of_below hb (fun _ => False)) (fun _ _ h => h)) (by decide) hb' q)
  refine ⟨⟨b3.set_ 1 v', ?_, fun e he => own_but (hall e he) hbp (fun b hb' q => own_blk_ne (hall e he) b3 (by decide) (q ▸ hb'))⟩, ?_, fun i hi => ?_⟩
  · rw [List.length_append, List.flatMap_append]
    have := own_but hO hbp (fun b hb' q => own_blk_ne hO b3 (by decide) (q ▸ hb'))
    simpa using this
  · exact (hb3.weak (fun i _ e => .inr (.inl e))).trans hbp (fun i _ e => .inl e)
  · rcases hi with rfl | hi | ⟨e, he, hi⟩
    · exact .inl (.inl rfl)
    · rcases hat with h1 | h1
      · exact .inl (.inr (.inl (h1 ▸ hi)))
      · rw [h1] at hi
        cases hi
        exact .inr (by have := hb.size; simp; omega)
    · rcases List.mem_append.1 he with he | he
      · exact .inl (.inr (.inr ⟨e, he, hi⟩))
      · rw [List.mem_singleton.1 he] at hi
        exact .inr (own_base hK hi)
def PutRP (w : World) (p : Nat) (room : Int) (v : Value) (L : List RE) (id : Int) (ks : List Key) (e : Ending) (w' : World) : Prop :=
  ∃ L' v', e = .returned (.int .i64 (putRN L room id)) ∧ PutsR w w' p room v L v' L' ∧ (putRN L room id ≠ 0 → L' = L) ∧ (putRN L room id = 0 → ∃ y : RE, L' = L ++ [y] ∧ y.id = id ∧ y.keys = ks ∧ y.is = 0 ∧ y.tch = false)
set_option maxRecDepth 100000 in
set_option maxHeartbeats 4000000 in
theorem putR_calls {p : Nat} {room : Int} {v : Value} {L : List RE} (id : Int) (ks : List Key) (KA : Option Addr) (kc : Nat) (w : World) (h : RAt w p room v L) (hr : Reads w w.heap.size 2 KA ks.length (keysC ks)) (hk : ks.length * 16 ≤ 140737488351232) (hl : L.length ≤ 2932031007400) :
    Calls Tryd.prog 30 #[eP p, .int .i64 id, .slice KA ks.length kc] w (PutRP w p room v L id ks) := by
  obtain ⟨i0, hi0, hz0, hz1, hz2⟩ := info_parts infoRE
  have hf := findR_calls id w h (by omega)
  obtain ⟨A, c, rfl⟩ := row_slice h.row
  have c1 : w.cell? ⟨p, 1, none⟩ = some (.slice A L.length c) := h.blk.cell 1
  have c0 : w.cell? ⟨p, 0, none⟩ = some (.int .i64 room) := h.blk.cell 0
  have H := Lib.hid h
  have HR := Lib.hid hr
  unfold eP at hf ⊢
  have HFD := Lib.hid hf
  clear h hf hr
  go_enter Tryd.func30, Tryd.ntmps30
  go_wp2_with (fail)
  refine HFD.out.mono ?_
  rintro e w2 ⟨r, rfl, hfr, hw2⟩
  subst hw2
  rcases hfr with ⟨rfl, hno⟩ | ⟨r, hrl, rfl, hid⟩
  · have hpn : putRN L room id = if room ≤ L.length then 20 else 0 := by unfold putRN; rw [if_neg (fun ⟨e, he, h⟩ => hno e he h)]
    by_cases hroom : room ≤ L.length
    · rw [if_pos hroom] at hpn
      have HPN := Lib.hid hpn
      clear hpn hno
      go_wp2_with (fail)
      go_quiet (fail)
      go_wp2
      go_ret
      exact ⟨L, _, by rw [HPN.out]; rfl, ⟨(H.out.below (below_drewN (Below.refl _ _) _)), But.of_below (below_drewN (Below.refl _ _) _) _, fun _ h => .inl h⟩, fun _ => rfl, fun h0 => absurd (HPN.out.symm.trans h0) (by decide)⟩
    · rw [if_neg hroom] at hpn
      have HPN := Lib.hid hpn
      clear hpn hno
      go_wp2_with (fail)
      go_quiet (fail)
      go_wp2_with (fail)
      obtain ⟨WA, hWA⟩ : ∃ X, w2.drewN nq = X := ⟨_, rfl⟩
      have hbA : Below w2.heap.size w2 WA := hWA ▸ below_drewN (Below.refl _ _) _
      have hA := H.out.below hbA
      have hrA := (HR.out.below hbA).more hbA.size
      have hcp := copyKeys_calls ks KA kc WA.heap.size WA.drew hrA.drew (Nat.le_refl _) hk
      have cA : WA.cell? ⟨p, 1, none⟩ = some (.slice A L.length c) := hA.blk.cell 1
      rw [hWA]
      have HA := Lib.hid hA
      have HBA := Lib.hid hbA
      have HCP := Lib.hid hcp
      clear hWA hbA hA hrA hcp c1 c0
      go_region_law (first
        | (refine step_append_lies _ (by rfl) (.tmp 25) (.tmp 30) 42 (by rfl) 0 66 i0 _ 4 48 Tryd.underlying42 hi0 hz0 hz1 hz2 rfl (by decide) (.slice A L.length c) L.length (L.flatMap RE.cs) (by rfl) (HA3.out.row.alloc _) ⟨w3.heap.size, 0, none⟩ 1 1 [.int .i64 id, .slice KA2 ks.length kc2, .int .i64 0, .bool false] (by rfl) (by rfl) ?_ (by simp [Value.oneCell']) (by decide) (by unfold maxLen; omega) (by omega) (Nat.zero_le _) (w3.heap.size + 1) (by simp) ?_; exact new_cells w3 66 [.int .i64 id, .slice KA2 ks.length kc2, .int .i64 0, .bool false]; intro BA bc w4 hown1 hg1 hat1 hlt1; have hpp := put_puts ⟨id, KA2, ks, kc2, 0, false⟩ HA.out HB3.out HKO.out hown1 hg1 (hat1.elim (fun h => .inl h.symm) (fun h => .inr (congrArg some (h.trans (by simp))))); have HPP := Lib.hid hpp; have hb4 := HA3.out.blk.but (((But.refl w3 (fun i => (Value.slice A L.length c).ownBlock = some i)).alloc _).grown hg1 (fun i _ e => e)) (own_blk_ne HA3.out.row HA3.out.blk (by decide)); have q1 : w4.cell? ⟨p, 1, none⟩ = some (.slice A L.length c) := hb4.cell 1; have z1 : w4.frozen? ⟨p, 1, none⟩ = false := hb4.frozen 1; clear hpp hb4 hown1 hg1 hat1 hlt1)
        | (go_simp; go_at_call 43; refine HCP.out.mono ?_; rintro e w3 ⟨kv, rfl, hkO, hkB⟩; obtain ⟨KA2, kc2, rfl⟩ := own_slice hkO; have hb3 : Below WA.heap.size WA w3 := (Below.refl _ _).drew.trans hkB; have hA3 := HA.out.below hb3; have d1 : w3.cell? ⟨p, 1, none⟩ = some (.slice A L.length c) := hA3.blk.cell 1; have d2 : (w3.alloc (.cells #[.int .i64 id, .slice KA2 ks.length kc2, .int .i64 0, .bool false] 66)).cell? ⟨p, 1, none⟩ = some (.slice A L.length c) := (hA3.blk.alloc _).cell 1; have HKO := Lib.hid hkO; have HB3 := Lib.hid hb3; have HA3 := Lib.hid hA3; clear hkO hkB hb3 hA3))
      all_goals (go_wp2_with (fail))
      all_goals go_ret
      all_goals exact ⟨_, _, by rw [HPN.out]; rfl, ⟨HPP.out.at_, (But.of_below HBA.out _).trans HPP.out.but (fun _ _ h => h), fun i hi => (HPP.out.of i hi).imp (fun h => h) (Nat.le_trans HBA.out.size)⟩, fun h0 => absurd HPN.out h0, fun _ => ⟨_, rfl, rfl, rfl, rfl, rfl⟩⟩
  · have hpn : putRN L room id = 11 := by unfold putRN; rw [if_pos ⟨_, List.getElem_mem hrl, hid⟩]
    have HPN := Lib.hid hpn
    have hge : (0 : Int) ≤ r := by omega
    clear hpn hid
    go_wp2
    go_ret
    exact ⟨L, _, by rw [HPN.out]; rfl, ⟨H.out, But.refl _ _, fun _ h => .inl h⟩, fun _ => rfl, fun h0 => absurd (HPN.out.symm.trans h0) (by decide)⟩
end Go.Proofs.YtmcknfpohnobdaaDoor
