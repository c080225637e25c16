/- Queue: New, Len, Full, Take, Back by contracts. -/
import Derived.Test.YtmcknfpohnobdaaDoorQueue
import Derived.BigQuiet
import Derived.Deep.RegionHeld3
namespace Go.Proofs.YtmcknfpohnobdaaDoor
set_option linter.unusedSimpArgs false
set_option linter.unusedVariables false
open Go.RowKit Go.MapKept Go.ChangeMaps Go.Maps

/-- What of an entry no call turns. -/
def Ent.core (e : Ent) : Nat × Option Addr × Nat × Int × Int × List Key := (e.b, e.A, e.c, e.id, e.turn, e.keys)
theorem core_entC {L L' : List Ent} (h : L'.map Ent.core = L.map Ent.core) : entC L' = entC L := by
  have : ∀ l : List Ent, entC l = (l.map Ent.core).map (fun c => eP c.1) := fun l => by simp [entC, Ent.core]
  rw [this, this, h]
theorem core_ids {L L' : List Ent} (h : L'.map Ent.core = L.map Ent.core) : L'.map (fun e => (e.id, e.b)) = L.map (fun e => (e.id, e.b)) := by
  have : ∀ l : List Ent, l.map (fun e => (e.id, e.b)) = (l.map Ent.core).map (fun c => (c.2.2.2.1, c.1)) := fun l => by simp [Ent.core]
  rw [this, this, h]
theorem core_waits {L L' : List Ent} (h : L'.map Ent.core = L.map Ent.core) (k : Key) : waitsL L' k = waitsL L k := by
  have : ∀ l : List Ent, waitsL l k = ((l.map Ent.core).filter (fun c => decide (k ∈ c.2.2.2.2.2))).map (fun c => (c.1, (c.2.2.2.2.2.count k : Int))) := fun l => by
    rw [List.filter_map, List.map_map]
    rfl
  rw [this, this, h]
theorem core_mem {L L' : List Ent} (h : L'.map Ent.core = L.map Ent.core) {e : Ent} (he : e ∈ L') : ∃ x ∈ L, x.core = e.core := by
  have : e.core ∈ L.map Ent.core := h ▸ List.mem_map.2 ⟨e, he, rfl⟩
  obtain ⟨x, hx, e1⟩ := List.mem_map.1 this
  exact ⟨x, hx, e1⟩
theorem core_kv {x e : Ent} (h : x.core = e.core) : x.kv = e.kv ∧ x.b = e.b ∧ x.keys = e.keys ∧ x.id = e.id := by
  unfold Ent.core at h
  simp only [Prod.mk.injEq] at h
  obtain ⟨h1, h2, h3, h4, h5, h6⟩ := h
  exact ⟨by unfold Ent.kv; rw [h2, h3, h6], h1, h6, h4⟩
theorem core_len {L L' : List Ent} (h : L'.map Ent.core = L.map Ent.core) : L'.length = L.length := by simpa using congrArg List.length h
section
variable {w w' : World} {p bi bw : Nat} {room turns : Int} {lv : Value} {L L' : List Ent} {W : List (Key × Nat)} {S : Nat → Prop}
/-- Flags of entries turned. -/
theorem QAt.swap (h : QAt w p room turns lv bi bw L W) (hc : L'.map Ent.core = L.map Ent.core) (hb : But w w' S) (hE : ∀ e ∈ L', Blk w' e.b 68 e.cs) (hS : ∀ i, S i → ∃ e ∈ L, i = e.b) : QAt w' p room turns lv bi bw L' W := by
  have ne : ∀ e ∈ L, _ := fun e he => ent_ne h he
  refine ⟨h.blk.but hb ?_, ?_, hE, ?_, ?_, ?_, h.bne, h.biW, ?_, ?_, ?_⟩
  · intro hs; obtain ⟨e, he, q⟩ := hS _ hs; exact (ne e he).1 q
  · rw [core_entC hc, core_len hc]
    refine own_but h.row hb (fun b hb' hs => ?_)
    obtain ⟨e, he, q⟩ := hS _ hs; exact (ne e he).2.1 (q ▸ hb')
  · intro e he
    obtain ⟨x, hx, q⟩ := core_mem hc he
    obtain ⟨q1, q2, q3, _⟩ := core_kv q
    rw [← q1, ← q3]
    refine own_but (h.keysR x hx) hb (fun b hb' hs => ?_)
    obtain ⟨y, hy, q⟩ := hS _ hs; exact (ne y hy).2.2.2.2.2 x hx (q ▸ hb')
  · rw [core_ids hc]
    refine h.ids.but hb (fun hs => ?_)
    obtain ⟨e, he, q⟩ := hS _ hs; exact (ne e he).2.2.1 q
  · have e1 : waitsL L' = waitsL L := funext (core_waits hc)
    rw [e1]
    refine h.wts.but hb (fun hs => ?_) (fun k m hm hs => ?_)
    · obtain ⟨e, he, q⟩ := hS _ hs; exact (ne e he).2.2.2.1 q
    · obtain ⟨e, he, q⟩ := hS _ hs; exact (ne e he).2.2.2.2.1 k m hm q
  · have : ∀ l : List Ent, l.map (·.id) = (l.map Ent.core).map (fun c => c.2.2.2.1) := fun l => by simp [Ent.core]
    rw [this, hc, ← this]; exact h.idn
  · have : ∀ l : List Ent, l.map (·.b) = (l.map Ent.core).map (fun c => c.1) := fun l => by simp [Ent.core]
    rw [this, hc, ← this]; exact h.bn
  · intro e he
    obtain ⟨x, hx, q⟩ := core_mem hc he
    rw [← (core_kv q).2.2.2]; exact h.wf x hx
theorem ofq_core (hc : L'.map Ent.core = L.map Ent.core) {i : Nat} (hi : OfQ p lv bi bw L' W i) : OfQ p lv bi bw L W i := by
  rcases hi with hi | hi | hi | hi | ⟨e, he, hi⟩ | hi
  · exact .inl hi
  · exact .inr (.inl hi)
  · exact .inr (.inr (.inl hi))
  · exact .inr (.inr (.inr (.inl hi)))
  · obtain ⟨x, hx, q⟩ := core_mem hc he
    obtain ⟨q1, q2, _⟩ := core_kv q
    exact .inr (.inr (.inr (.inr (.inl ⟨x, hx, by rw [q1, q2]; exact hi⟩))))
  · exact .inr (.inr (.inr (.inr (.inr hi))))
theorem core_set {k : Nat} (hk : k < L.length) {e : Ent} (he : e.core = L[k].core) : (L.set k e).map Ent.core = L.map Ent.core := by
  refine List.ext_getElem (by simp) (fun i h1 h2 => ?_)
  rw [List.getElem_map, List.getElem_map, List.getElem_set]
  split
  · rename_i q; subst q; exact he
  · rfl
/-- One entry's flags turned. -/
theorem QAt.turn1 (h : QAt w p room turns lv bi bw L W) {k : Nat} (hk : k < L.length) {e : Ent} (he : e.core = L[k].core) (hb : But w w' (fun i => i = L[k].b)) (hE : Blk w' L[k].b 68 e.cs) : QAt w' p room turns lv bi bw (L.set k e) W := by
  refine h.swap (core_set hk he) hb (fun x hx => ?_) (fun i hi => ⟨L[k], List.getElem_mem hk, hi⟩)
  obtain ⟨j, hj, rfl⟩ := List.getElem_of_mem hx
  rw [List.getElem_set]
  split
  · rename_i q
    subst q
    have : e.b = L[k].b := by have := congrArg Prod.fst he; exact this
    rw [this]; exact hE
  · rename_i q
    have hj' : j < L.length := by simpa using hj
    refine (h.ents _ (List.getElem_mem hj')).but hb (fun hs => ?_)
    have key := List.pairwise_iff_getElem.1 h.bn
    rcases Nat.lt_or_ge j k with h1 | h1
    · have h2 := key j k (by simpa using hj') (by simpa using hk) h1
      rw [List.getElem_map, List.getElem_map] at h2
      exact h2 hs
    · have h2 := key k j (by simpa using hk) (by simpa using hj') (by omega)
      rw [List.getElem_map, List.getElem_map] at h2
      exact h2 hs.symm
end
theorem maxI (n : Int) : max 0 n = if n < 0 then 0 else n := by split <;> omega

set_option maxRecDepth 100000 in
set_option maxHeartbeats 2000000 in
theorem len_calls {p bi bw : Nat} {room turns : Int} {lv : Value} {L : List Ent} {W : List (Key × Nat)} (w : World) (h : QAt w p room turns lv bi bw L W) : Calls Tryd.prog 16 #[eP p] w
    fun e w' => e = .returned (.int .i64 L.length) ∧ w' = w := by
  obtain ⟨A, c, rfl⟩ := own_slice h.row
  have c2 : w.cell? ⟨p, 2, none⟩ = some (.slice A L.length c) := h.blk.cell 2
  unfold eP
  go_enter Tryd.func16, Tryd.ntmps16
  go_wp2
  go_ret
  exact ⟨rfl, rfl⟩
set_option maxRecDepth 100000 in
set_option maxHeartbeats 2000000 in
theorem full_calls {p bi bw : Nat} {room turns : Int} {lv : Value} {L : List Ent} {W : List (Key × Nat)} (w : World) (h : QAt w p room turns lv bi bw L W) : Calls Tryd.prog 17 #[eP p] w
    fun e w' => e = .returned (.bool (decide (room ≤ L.length))) ∧ Below w.heap.size w w' := by
  obtain ⟨A, c, rfl⟩ := own_slice h.row
  have c2 : w.cell? ⟨p, 2, none⟩ = some (.slice A L.length c) := h.blk.cell 2
  have c0 : w.cell? ⟨p, 0, none⟩ = some (.int .i64 room) := h.blk.cell 0
  unfold eP
  go_enter Tryd.func17, Tryd.ntmps17
  go_wp2_with (fail)
  go_quiet (fail)
  go_wp2
  go_ret
  exact ⟨rfl, below_drewN (Below.refl _ _) _⟩

/-- What Take answers. -/
def TakeQ (L L' : List Ent) (n : Int) (ok : Bool) : Prop :=
  (ok = false ∧ n = 0 ∧ L' = L ∧ ∀ e ∈ L, e.rdy = false) ∨
  ∃ (k : Nat) (hk : k < L.length), ok = true ∧ L[k].rdy = true ∧ (∀ j (hj : j < k), L[j].rdy = false) ∧ n = L[k].id ∧ L' = L.set k { L[k] with rdy := false, tkn := true, tch := false }
set_option maxRecDepth 100000 in
set_option maxHeartbeats 4000000 in
theorem take_calls {p bi bw : Nat} {room turns : Int} {lv : Value} {L : List Ent} {W : List (Key × Nat)} (w : World) (h : QAt w p room turns lv bi bw L W) (hlen : L.length ≤ 4611686018427387904) : Calls Tryd.prog 24 #[eP p] w
    fun e w' => ∃ L' n ok, e = .returned (.tuple #[.int .i64 n, .bool ok]) ∧ TakeQ L L' n ok ∧ L'.map Ent.core = L.map Ent.core ∧ QAt w' p room turns lv bi bw L' W ∧ But w w' (OfQ p lv bi bw L W) := by
  obtain ⟨A, c, rfl⟩ := own_slice h.row
  have c2 : w.cell? ⟨p, 2, none⟩ = some (.slice A L.length c) := h.blk.cell 2
  have H := Lib.hid h
  clear h
  unfold eP
  go_enter Tryd.func24, Tryd.ntmps24
  go_wp2_with (fail)
  go_loopw [5, 11] (fun _ i wr => ∃ k : Nat, k ≤ L.length ∧ i = .int .i64 k ∧ (∀ j (hj : j < L.length), j < k → L[j].rdy = false) ∧ wr = w) (fun _ i _ => L.length - (intOf i).toNat)
  case atStart => exact ⟨0, Nat.zero_le _, rfl, fun j _ hj => by omega, rfl⟩
  case round =>
    obtain ⟨k, hk, rfl, hno, hwr⟩ := hrel
    subst hwr
    have HNO := Lib.hid hno
    clear hno
    by_cases hlt : k < L.length
    · have hkl : (k : Int) < L.length := by omega
      obtain ⟨ad, rfl, hc⟩ := H.out.ent_at rfl hlt
      unfold eP at hc
      have hB := H.out.ents _ (List.getElem_mem hlt)
      generalize hx : L[k] = x at hc hB
      have e0 : wr.cell? ⟨x.b, 0, none⟩ = some (.int .i64 x.id) := hB.cell 0
      have e3 : wr.cell? ⟨x.b, 3, none⟩ = some (.bool x.rdy) := hB.cell 3
      have f3 : wr.frozen? ⟨x.b, 3, none⟩ = false := hB.frozen 3
      have f4 : wr.frozen? ⟨x.b, 4, none⟩ = false := hB.frozen 4
      have f5 : wr.frozen? ⟨x.b, 5, none⟩ = false := hB.frozen 5
      have e4 : wr.cell? ⟨x.b, 4, none⟩ = some (.bool x.tkn) := hB.cell 4
      have e5 : wr.cell? ⟨x.b, 5, none⟩ = some (.bool x.tch) := hB.cell 5
      have HX := Lib.hid hx
      have HB := Lib.hid hB
      clear hx hB
      cases hr : x.rdy with
      | true =>
        rw [hr] at e3
        go_wp2
        go_ret2
        refine ⟨L.set k { x with rdy := false, tkn := true, tch := false }, _, _, rfl, .inr ⟨k, hlt, rfl, by rw [HX.out]; exact hr, fun j hj => HNO.out j (by omega) hj, by rw [HX.out], by rw [HX.out]⟩, core_set hlt (by rw [HX.out]; rfl), ?_, ?_⟩
        · refine H.out.turn1 hlt (by rw [HX.out]; rfl) (((But.refl wr _).setCell (fun _ => by rw [HX.out]) _).setCell (fun _ => by rw [HX.out]) _ |>.setCell (fun _ => by rw [HX.out]) _) ?_
          rw [HX.out]
          exact ((HB.out.set_ 3 (.bool false)).set_ 4 (.bool true)).set_ 5 (.bool false)
        · have hof : OfQ p (.slice (some ad) L.length c) bi bw L W x.b := .inr (.inr (.inr (.inr (.inl ⟨x, HX.out ▸ List.getElem_mem hlt, .inl rfl⟩))))
          exact (((But.refl wr _).setCell (fun _ => hof) _).setCell (fun _ => hof) _).setCell (fun _ => hof) _
      | false =>
        rw [hr] at e3
        go_wp2
        go_roundw
        case rel =>
          refine ⟨k + 1, by omega, by go_num, fun j hj hjk => ?_, by first | rfl | trivial⟩
          rcases Nat.lt_or_ge j k with h1 | h1
          · exact HNO.out j hj h1
          · obtain rfl : j = k := by omega
            rw [HX.out]; exact hr
        case measure => simp [intOf]; omega
    · obtain rfl : k = L.length := by omega
      go_wp2
      go_ret2
      refine ⟨L, _, _, rfl, .inl ⟨rfl, rfl, rfl, fun e he => ?_⟩, rfl, H.out, But.refl _ _⟩
      obtain ⟨j, hj, rfl⟩ := List.getElem_of_mem he
      exact HNO.out j hj hj
end Go.Proofs.YtmcknfpohnobdaaDoor
