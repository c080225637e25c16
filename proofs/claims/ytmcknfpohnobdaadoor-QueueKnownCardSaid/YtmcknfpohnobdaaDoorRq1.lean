/- The document's queue in memory; New, find, Full. -/
import Derived.Test.YtmcknfpohnobdaaDoorQueue
import Derived.Test.YtmcknfpohnobdaaDoorFlat
import Derived.Test.YtmcknfpohnobdaaDoorQ7
import Derived.Test.YtmcknfpohnobdaaDoorTail
namespace Go.Proofs.YtmcknfpohnobdaaDoor
set_option linter.unusedSimpArgs false
set_option linter.unusedVariables false
open Go.RowKit Go.MapKept Go.ChangeMaps Go.Maps

/-- An entry of the document's. -/
structure RE where
  id : Int
  A : Option Addr
  keys : List Key
  c : Nat
  is : Int
  tch : Bool
def RE.kv (x : RE) : Value := .slice x.A x.keys.length x.c
def RE.cs (x : RE) : List Value := [.int .i64 x.id, .slice x.A x.keys.length x.c, .int .i64 x.is, .bool x.tch]
theorem RE.len (x : RE) : x.cs.length = 4 := rfl
theorem infoRE : (Tryd.prog.info? 66).map (fun i => (i.zero, i.size, i.bytes)) = some (some (.agg #[.int .i64 0, .slice none 0 0, .int .i64 0, .bool false]), 4, 48) := by kernel_rfl
structure RAt (w : World) (p : Nat) (room : Int) (v : Value) (L : List RE) : Prop where
  blk : Blk w p 44 #[.int .i64 room, v]
  row : w.ownsRow 0 66 4 v L.length (L.flatMap RE.cs)
  keysR : ∀ e ∈ L, w.ownsRow 0 48 2 e.kv e.keys.length (keysC e.keys)
/-- The blocks of it. -/
def OfR (p : Nat) (v : Value) (L : List RE) (i : Nat) : Prop := i = p ∨ v.ownBlock = some i ∨ ∃ e ∈ L, e.kv.ownBlock = some i
section
variable {w w' : World} {p : Nat} {room : Int} {v : Value} {L : List RE} {S : Nat → Prop}
theorem RAt.but (h : RAt w p room v L) (hb : But w w' S) (hS : ∀ i, OfR p v L i → ¬ S i) : RAt w' p room v L :=
  ⟨h.blk.but hb (hS p (.inl rfl)), own_but h.row hb (fun b hb => hS b (.inr (.inl hb))), fun e he => own_but (h.keysR e he) hb (fun b hb => hS b (.inr (.inr ⟨e, he, hb⟩)))⟩
theorem RAt.below (h : RAt w p room v L) (hb : Below w.heap.size w w') : RAt w' p room v L := h.but (But.of_below hb (fun _ => False)) (fun _ _ h => h)
theorem RAt.lt (h : RAt w p room v L) {i : Nat} (hi : OfR p v L i) : i < w.heap.size := by
  rcases hi with rfl | hi | ⟨e, he, hi⟩
  · exact h.blk.lt
  · exact own_lt h.row hi
  · exact own_lt (h.keysR e he) hi
/-- An element's cells. -/
theorem RAt.at_ (h : RAt w p room v L) {A : Option Addr} {c : Nat} (hv : v = .slice A L.length c) {k : Nat} (hk : k < L.length) :
    ∃ g, A = some ⟨g, 0, none⟩ ∧ w.cell? ⟨g, k * 4, none⟩ = some (.int .i64 L[k].id) ∧ w.cell? ⟨g, k * 4 + 1, none⟩ = some (.slice L[k].A L[k].keys.length L[k].c) ∧ w.cell? ⟨g, k * 4 + 2, none⟩ = some (.int .i64 L[k].is) ∧ w.cell? ⟨g, k * 4 + 3, none⟩ = some (.bool L[k].tch) := by
  subst hv
  obtain ⟨g, rfl⟩ := row_at0 h.row (by omega)
  exact ⟨g, rfl, row_cell RE.len h.row hk (r := 0) rfl, row_cell RE.len h.row hk (r := 1) rfl, row_cell RE.len h.row hk (r := 2) rfl, row_cell RE.len h.row hk (r := 3) rfl⟩
/-- One field of one entry written. -/
theorem RAt.set (h : RAt w p room v L) {g c : Nat} (hv : v = .slice (some ⟨g, 0, none⟩) L.length c) {k r : Nat} (hk : k < L.length) (u : Value) (y : RE) (hr : r < 4) (hy : y.cs = L[k].cs.set r u) (hkv : y.A = L[k].A ∧ y.keys = L[k].keys ∧ y.c = L[k].c) :
    RAt (w.setCell ⟨g, k * 4 + r, none⟩ u) p room v (L.set k y) ∧ But w (w.setCell ⟨g, k * 4 + r, none⟩ u) (fun i => i = g) ∧ (∀ i, OfR p v (L.set k y) i → OfR p v L i) := by
  subst hv
  have hb : But w (w.setCell ⟨g, k * 4 + r, none⟩ u) (fun i => i = g) := (But.refl w (fun i => i = g)).setCell (p := ⟨g, k * 4 + r, none⟩) (fun _ => rfl) u
  have hmem : ∀ e ∈ L.set k y, ∃ x ∈ L, e.kv = x.kv ∧ e.keys = x.keys := by
    intro e he
    rcases List.mem_or_eq_of_mem_set he with h1 | rfl
    · exact ⟨e, h1, rfl, rfl⟩
    · exact ⟨L[k], List.getElem_mem hk, by unfold RE.kv; rw [hkv.1, hkv.2.1, hkv.2.2], hkv.2.1⟩
  refine ⟨⟨h.blk.but hb (fun e => own_blk_ne h.row h.blk (by decide) (by rw [e]; rfl)), ?_, fun e he => ?_⟩, hb, fun i hi => ?_⟩
  · rw [List.length_set]
    exact row_set RE.len h.row hk u y hr hy
  · obtain ⟨x, hx, e1, e2⟩ := hmem e he
    rw [e1, e2]
    exact own_but (h.keysR x hx) hb (fun b hb' e => own_own_ne (h.keysR x hx) h.row (by decide) hb' (by rw [e]; rfl))
  · rcases hi with rfl | hi | ⟨e, he, hi⟩
    · exact .inl rfl
    · exact .inr (.inl hi)
    · obtain ⟨x, hx, e1, _⟩ := hmem e he
      exact .inr (.inr ⟨x, hx, e1 ▸ hi⟩)
end
set_option maxRecDepth 100000 in
set_option maxHeartbeats 1000000 in
theorem newR_calls (room : Int) (w : World) : Calls Tryd.prog 6 #[.int .i64 room] w
    fun e w' => ∃ p, e = .returned (eP p) ∧ RAt w' p (roomQ room) (.slice none 0 0) [] ∧ Below w.heap.size w w' ∧ w.heap.size ≤ p := by
  have hm : ∀ r : Int, RAt (w.alloc (.cells #[.int .i64 r, .slice none 0 0] 44)) w.heap.size r (.slice none 0 0) [] := fun r =>
    ⟨Blk.new w _ _, World.ownsRow_nil _ _ _ _, fun e he => by cases he⟩
  have HM0 := Lib.hid (hm 0)
  have HMR := Lib.hid (hm room)
  clear hm
  go_enter Tryd.func6, Tryd.ntmps6
  go_wp2
  all_goals
    go_ret
    first
      | (rw [show roomQ room = 0 by unfold roomQ; split <;> omega]; exact ⟨_, rfl, HM0.out, (Below.refl _ _).alloc (Nat.le_refl _) _, Nat.le_refl _⟩)
      | (rw [show roomQ room = room by unfold roomQ; split <;> omega]; exact ⟨_, rfl, HMR.out, (Below.refl _ _).alloc (Nat.le_refl _) _, Nat.le_refl _⟩)
set_option maxRecDepth 100000 in
set_option maxHeartbeats 1000000 in
theorem fullR_calls {p : Nat} {room : Int} {v : Value} {L : List RE} (w : World) (h : RAt w p room v L) : Calls Tryd.prog 18 #[eP p] w
    fun e w' => e = .returned (.bool (decide (room ≤ L.length))) ∧ ∃ n, w' = w.drewN n := by
  obtain ⟨A, c, rfl⟩ := row_slice h.row
  have c1 : w.cell? ⟨p, 1, none⟩ = some (.slice A L.length c) := h.blk.cell 1
  have c0 : w.cell? ⟨p, 0, none⟩ = some (.int .i64 room) := h.blk.cell 0
  clear h
  unfold eP
  go_enter Tryd.func18, Tryd.ntmps18
  go_wp2_with (fail)
  go_quiet (fail)
  go_wp2
  go_ret
  exact ⟨rfl, _, rfl⟩
/-- What find answers. -/
def FindR (L : List RE) (id r : Int) : Prop := (r = -1 ∧ ∀ x ∈ L, x.id ≠ id) ∨ ∃ (k : Nat) (hk : k < L.length), r = k ∧ L[k].id = id
set_option maxRecDepth 100000 in
set_option maxHeartbeats 2000000 in
theorem findR_calls {p : Nat} {room : Int} {v : Value} {L : List RE} (id : Int) (w : World) (h : RAt w p room v L) (hl : L.length ≤ 4611686018427387904) :
    Calls Tryd.prog 42 #[eP p, .int .i64 id] w fun e w' => ∃ r, e = .returned (.int .i64 r) ∧ FindR L id r ∧ w' = w := by
  obtain ⟨A, c, rfl⟩ := row_slice h.row
  have c1 : w.cell? ⟨p, 1, none⟩ = some (.slice A L.length c) := h.blk.cell 1
  have H := Lib.hid h
  clear h
  unfold eP
  go_enter Tryd.func42, Tryd.ntmps42
  go_wp2_with (fail)
  go_loopw [5] (fun i wr => ∃ k : Nat, k ≤ L.length ∧ i = .int .i64 k ∧ (∀ x ∈ L.take k, x.id ≠ id) ∧ wr = w) (fun i _ => L.length - (intOf i).toNat)
  case atStart => exact ⟨0, Nat.zero_le _, rfl, by simp, rfl⟩
  case round =>
    obtain ⟨k, hk, rfl, hno, hwr⟩ := hrel
    subst hwr
    have HNO := Lib.hid hno
    clear hno
    by_cases hlt : k < L.length
    · have hkl : (k : Int) < L.length := by omega
      obtain ⟨g, rfl, e0, _⟩ := H.out.at_ rfl hlt
      have hT : L.take (k + 1) = L.take k ++ [L[k]] := List.take_succ_eq_append_getElem hlt
      obtain ⟨x, hx⟩ : ∃ x, L[k] = x := ⟨_, rfl⟩
      rw [hx] at e0 hT
      have HX := Lib.hid hx
      have HT := Lib.hid hT
      clear hx hT
      by_cases he : x.id = id
      · have HEI := Lib.hid he
        go_wp2
        go_ret
        exact ⟨_, rfl, .inr ⟨k, hlt, rfl, by rw [HX.out]; exact HEI.out⟩, rfl⟩
      · have HEI := Lib.hid he
        go_wp2
        go_roundw
        case rel =>
          refine ⟨k + 1, by omega, by go_num, fun z hz => ?_, by first | rfl | trivial⟩
          rw [HT.out] at hz
          rcases List.mem_append.1 hz with h | h
          · exact HNO.out z h
          · rw [List.mem_singleton.1 h]; exact HEI.out
        case measure => simp [intOf]; omega
    · obtain rfl : k = L.length := by omega
      have hn := HNO.out
      rw [List.take_length] at hn
      have HN := Lib.hid hn
      clear hn
      go_wp2
      go_ret
      exact ⟨_, rfl, .inl ⟨rfl, HN.out⟩, rfl⟩
end Go.Proofs.YtmcknfpohnobdaaDoor
