/- Queue: what Put needs: the queue but for who waits. -/
import Derived.Test.YtmcknfpohnobdaaDoorQ4
namespace Go.Proofs.YtmcknfpohnobdaaDoor
set_option linter.unusedSimpArgs false
set_option linter.unusedVariables false
open Go.RowKit Go.MapKept Go.ChangeMaps Go.Maps

/-- A queue but for its map of those that wait. -/
structure QNo (w : World) (p : Nat) (room turns : Int) (lv : Value) (bi bw : Nat) (L : List Ent) : Prop where
  blk : Blk w p 61 #[.int .i64 room, .int .i64 turns, lv, eM bi, eM bw]
  row : w.ownsRow 0 63 1 lv L.length (entC L)
  ents : ∀ e ∈ L, Blk w e.b 68 e.cs
  keysR : ∀ e ∈ L, w.ownsRow 0 48 2 e.kv e.keys.length (keysC e.keys)
  ids : MapT eI eP w bi (L.map (fun e => (e.id, e.b)))
  bne : bi ≠ bw
  idn : (L.map (·.id)).Nodup
  bn : (L.map (·.b)).Nodup
  wf : ∀ e ∈ L, wfI e.id
section
variable {w w' : World} {p bi bw : Nat} {room turns : Int} {lv : Value} {L : List Ent} {W : List (Key × Nat)} {S : Nat → Prop}
theorem QAt.no (h : QAt w p room turns lv bi bw L W) : QNo w p room turns lv bi bw L := ⟨h.blk, h.row, h.ents, h.keysR, h.ids, h.bne, h.idn, h.bn, h.wf⟩
theorem QNo.qat (h : QNo w p room turns lv bi bw L) (hw : WAt w bw W (waitsL L)) (hb : ∀ k m, (k, m) ∈ W → m ≠ bi) : QAt w p room turns lv bi bw L W := ⟨h.blk, h.row, h.ents, h.keysR, h.ids, hw, h.bne, hb, h.idn, h.bn, h.wf⟩
theorem QNo.but (h : QNo w p room turns lv bi bw L) (hb : But w w' S) (h1 : ¬ S p) (h2 : ∀ b, lv.ownBlock = some b → ¬ S b) (h3 : ¬ S bi) (h4 : ∀ e ∈ L, ¬ S e.b ∧ ∀ b, e.kv.ownBlock = some b → ¬ S b) : QNo w' p room turns lv bi bw L :=
  ⟨h.blk.but hb h1, own_but h.row hb h2, fun e he => (h.ents e he).but hb (h4 e he).1, fun e he => own_but (h.keysR e he) hb (h4 e he).2, h.ids.but hb h3, h.bne, h.idn, h.bn, h.wf⟩
theorem QNo.below (h : QNo w p room turns lv bi bw L) (hb : Below w.heap.size w w') : QNo w' p room turns lv bi bw L := h.but (But.of_below hb (fun _ => False)) (fun h => h) (fun _ _ h => h) (fun h => h) (fun _ _ => ⟨fun h => h, fun _ _ h => h⟩)
/-- A block that is a map's, and not the ids' map's. -/
theorem QNo.map_but {F : Nat → Prop} (h : QNo w p room turns lv bi bw L) (hb : But w w' F) (hF : ∀ i, F i → ∃ (K V : Type) (ek : K → Value) (ev : V → Value) (M : List (K × V)), MapT ek ev w i M ∧ i ≠ bi) : QNo w' p room turns lv bi bw L := by
  refine h.but hb (fun hs => ?_) (fun b hb' hs => ?_) (fun hs => ?_) (fun e he => ⟨fun hs => ?_, fun b hb' hs => ?_⟩)
  · obtain ⟨K, V, ek, ev, M, hm, _⟩ := hF _ hs; exact blk_map_ne h.blk hm rfl
  · obtain ⟨K, V, ek, ev, M, hm, _⟩ := hF _ hs; exact own_map_ne h.row hm hb'
  · obtain ⟨K, V, ek, ev, M, hm, hn⟩ := hF _ hs; exact hn rfl
  · obtain ⟨K, V, ek, ev, M, hm, _⟩ := hF _ hs; exact blk_map_ne (h.ents e he) hm rfl
  · obtain ⟨K, V, ek, ev, M, hm, _⟩ := hF _ hs; exact own_map_ne (h.keysR e he) hm hb'
theorem QAt.turns_ {t' : Int} (h : QAt w p room turns lv bi bw L W) : QAt (w.setCell ⟨p, 1, none⟩ (.int .i64 t')) p room t' lv bi bw L W := by
  have hb : But w (w.setCell ⟨p, 1, none⟩ (.int .i64 t')) (fun i => i = p) := (But.refl w (fun i => i = p)).setCell (fun _ => rfl) _
  have hp : ∀ e ∈ L, p ≠ e.b := fun e he => (ent_ne h he).1
  refine ⟨h.blk.set_ 1 _, own_but h.row hb (fun b hb' e => own_blk_ne h.row h.blk (by decide) (e ▸ hb')), fun e he => (h.ents e he).but hb (fun q => hp e he q.symm), fun e he => own_but (h.keysR e he) hb (fun b hb' q => own_blk_ne (h.keysR e he) h.blk (by decide) (q ▸ hb')),
    h.ids.but hb (fun q => blk_map_ne h.blk h.ids q.symm), h.wts.but hb (fun q => blk_map_ne h.blk h.wts.top q.symm) (fun k m hm q => blk_map_ne h.blk (h.wts.inn k m hm) q.symm), h.bne, h.biW, h.idn, h.bn, h.wf⟩
end

/-- Who waits behind some of a new entry's keys. -/
def putF (L : List Ent) (nb : Nat) (ks : List Key) (k : Key) : List (Nat × Int) := waitsL L k ++ (if k ∈ ks then [(nb, (ks.count k : Int))] else [])
theorem putF_nil (L : List Ent) (nb : Nat) (k : Key) : putF L nb [] k = waitsL L k := by unfold putF; simp
theorem putF_all (L : List Ent) (y : Ent) (k : Key) : putF L y.b y.keys k = waitsL (L ++ [y]) k := by
  unfold putF waitsL
  rw [List.filter_append, List.map_append]
  congr 1
  by_cases h : k ∈ y.keys
  · rw [if_pos h, List.filter_cons_of_pos (by simpa using h)]; rfl
  · rw [if_neg h, List.filter_cons_of_neg (by simpa using h)]; rfl
theorem putF_other (L : List Ent) (nb : Nat) (pre : List Key) {x k : Key} (h : k ≠ x) : putF L nb (pre ++ [x]) k = putF L nb pre k := by
  unfold putF
  have h1 : k ∈ pre ++ [x] ↔ k ∈ pre := by simp [h]
  have h2 : (pre ++ [x]).count k = pre.count k := by rw [List.count_append, List.count_singleton]; simp [Ne.symm h]
  by_cases hk : k ∈ pre
  · rw [if_pos (h1.2 hk), if_pos hk, h2]
  · rw [if_neg (fun q => hk (h1.1 q)), if_neg hk]
theorem waits_ne {L : List Ent} {nb : Nat} (hn : ∀ e ∈ L, e.b ≠ nb) (x : Key) : ∀ q ∈ waitsL L x, q.1 ≠ nb := by
  intro q hq
  obtain ⟨e, he, h1, _⟩ := waits_mem hq
  rw [← h1]; exact hn e he
theorem putF_step {L : List Ent} {nb : Nat} (hn : ∀ e ∈ L, e.b ≠ nb) (pre : List Key) (x : Key) :
    (mget (putF L nb pre x) nb).getD 0 = (pre.count x : Int) ∧ mput (putF L nb pre x) nb ((pre.count x : Int) + 1) = putF L nb (pre ++ [x]) x := by
  have hw := waits_ne hn x
  have hcount : (pre ++ [x]).count x = pre.count x + 1 := by rw [List.count_append, List.count_singleton]; simp
  by_cases hx : x ∈ pre
  · have e1 : putF L nb pre x = waitsL L x ++ (nb, (pre.count x : Int)) :: [] := by unfold putF; rw [if_pos hx]
    rw [e1, mget_some hw]
    refine ⟨rfl, ?_⟩
    rw [mput_some hw (by simp)]
    unfold putF
    rw [if_pos (by simp), hcount]
    simp
  · have e1 : putF L nb pre x = waitsL L x := by unfold putF; rw [if_neg hx]; simp
    rw [e1, mget_none hw]
    have h0 : pre.count x = 0 := List.count_eq_zero.2 hx
    refine ⟨by rw [h0]; rfl, ?_⟩
    rw [mput_none hw]
    unfold putF
    rw [if_pos (by simp), hcount, h0]
    simp
theorem putF_keys {w : World} {L : List Ent} {nb : Nat} (hL : ∀ e ∈ L, IsEnt w e.b) (hb : IsEnt w nb) (ks : List Key) (x : Key) : ∀ q ∈ putF L nb ks x, IsEnt w q.1 := by
  intro q hq
  unfold putF at hq
  rcases List.mem_append.1 hq with h | h
  · obtain ⟨e, he, h1, _⟩ := waits_mem h
    rw [← h1]; exact hL e he
  · split at h
    · simp only [List.mem_singleton] at h
      rw [h]; exact hb
    · simp at h
end Go.Proofs.YtmcknfpohnobdaaDoor
