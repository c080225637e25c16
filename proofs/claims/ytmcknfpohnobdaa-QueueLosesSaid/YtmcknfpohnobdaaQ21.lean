/- QueueLoses: what the script's loop keeps. -/
import Derived.Test.YtmcknfpohnobdaaQ20
import Derived.Test.YtmcknfpohnobdaaTail
namespace Go.Proofs.Ytmcknfpohnobdaa
set_option linter.unusedSimpArgs false
set_option linter.unusedVariables false
open Go.RowKit Go.MapKept Go.ChangeMaps Go.Maps

structure LInv (w0 w : World) (p bi bw : Nat) (rm : Int) (n : Nat) (v : Value) (T : Int) (lv : Value) (L : List Ent) (W : List (Key × Nat)) (M : List Kn) : Prop where
  len : L.length ≤ n
  all : All2 L M
  kin : ∀ x ∈ M, KeysIn w0 w0.heap.size x.A x.c x.keys
  row : w.ownsRow w0.heap.size 37 4 v M.length (M.flatMap Kn.cs)
  qs : QS w0 w ⟨p, bi, bw, rm, T, lv, L, W⟩ v
theorem opq_at4 {w : World} {B : Nat} {A : Option Addr} {es : List OpQ} (h : Reads w B 4 A es.length (es.flatMap OpQ.cs)) {k : Nat} (hk : k < es.length) :
    ∃ ad, A = some ad ∧ ad.block < B ∧ w.cell? (ad.add (k * 4)) = some (.int .i64 es[k].on) ∧ w.cell? ⟨(ad.add (k * 4)).block, (ad.add (k * 4)).off + 1, none⟩ = some (.int .i64 es[k].kind) ∧ w.cell? ⟨(ad.add (k * 4)).block, (ad.add (k * 4)).off + 2, none⟩ = some (.int .i64 es[k].id) ∧ w.cell? ⟨(ad.add (k * 4)).block, (ad.add (k * 4)).off + 3, none⟩ = some (.slice es[k].A es[k].keys.length es[k].c) := by
  obtain ⟨ad, e, hb, h0, h1⟩ := Reads.elem OpQ.len h hk
  exact ⟨ad, e, hb, h0 _ rfl, h1 1 _ (by omega) rfl, h1 2 _ (by omega) rfl, h1 3 _ (by omega) rfl⟩
section
variable {w0 w w' : World} {p bi bw n : Nat} {rm : Int} {v v' : Value} {T T' : Int} {lv lv' : Value} {L L' : List Ent} {W W' : List (Key × Nat)} {M M' : List Kn}
theorem LInv.below (h : LInv w0 w p bi bw rm n v T lv L W M) (hb : Below w.heap.size w w') : LInv w0 w' p bi bw rm n v T lv L W M :=
  ⟨h.len, h.all, h.kin, own_but h.row (But.of_below hb (fun _ => False)) (fun _ _ h => h), h.qs.below hb⟩
/-- The queue turned, the row as it was. -/
theorem LInv.turn (h : LInv w0 w p bi bw rm n v T lv L W M) (hb : But w w' (OfQ p lv bi bw L W)) (hq : QAt w' p rm T' lv' bi bw L' W') (hn : ∀ i, OfQ p lv' bi bw L' W' i → OfQ p lv bi bw L W i ∨ w.heap.size ≤ i) :
    w'.ownsRow w0.heap.size 37 4 v M.length (M.flatMap Kn.cs) ∧ QS w0 w' ⟨p, bi, bw, rm, T', lv', L', W'⟩ v :=
  ⟨h.qs.row h.row hb, h.qs.step (a' := ⟨p, bi, bw, rm, T', lv', L', W'⟩) hb hq hn⟩
theorem LInv.idn (h : LInv w0 w p bi bw rm n v T lv L W M) : (L.map (·.id)).Nodup := (show QAt w p rm T lv bi bw L W from h.qs.qa).idn
theorem LInv.ml (h : LInv w0 w p bi bw rm n v T lv L W M) : M.length = L.length := h.all.1.symm
theorem LInv.reads (h : LInv w0 w p bi bw rm n v T lv L W M) {A : Option Addr} {m c : Nat} (hv : v = .slice A m c) : Reads w w.heap.size 4 A M.length (M.flatMap Kn.cs) := by
  subst hv
  obtain ⟨A', c', e⟩ := own_slice h.row
  injection e with e1 e2 e3
  subst e1 e2 e3
  exact Reads.of_own h.row
end
theorem KR.id {e : Ent} {x : Kn} (h : KR e x) : x.id = e.id := h.1
/-- What find answers, by the queue's own entries. -/
theorem find_all {L : List Ent} {M : List Kn} {id r : Int} (h : All2 L M) (hf : FindQ M id r) : (r = -1 ∧ ∀ e ∈ L, e.id ≠ id) ∨ ∃ (k : Nat) (hk : k < L.length) (hm : k < M.length), r = k ∧ L[k].id = id ∧ KR L[k] M[k] := by
  rcases hf with ⟨h1, h2⟩ | ⟨k, hk, h1, h2⟩
  · refine .inl ⟨h1, fun e he q => ?_⟩
    obtain ⟨i, hi, rfl⟩ := List.getElem_of_mem he
    have hm : i < M.length := h.1 ▸ hi
    exact h2 M[i] (List.getElem_mem hm) ((h.2 i hi hm).1.trans q)
  · have hl : k < L.length := h.1.symm ▸ hk
    have := h.2 k hl hk
    exact .inr ⟨k, hl, hk, h1, by rw [← this.1]; exact h2, this⟩
theorem find_at {L : List Ent} {M : List Kn} {id r : Int} (h : All2 L M) (hn : (L.map (·.id)).Nodup) (hf : FindQ M id r) {k : Nat} (hk : k < L.length) (hid : L[k].id = id) : ∃ hm : k < M.length, r = k ∧ KR L[k] M[k] := by
  rcases find_all h hf with ⟨_, h2⟩ | ⟨j, hj, hm, h1, h2, h3⟩
  · exact absurd hid (h2 _ (List.getElem_mem hk))
  · have : j = k := nd_get hn hj hk (h2.trans hid.symm)
    subst this
    exact ⟨hm, h1, h3⟩
theorem find_no {L : List Ent} {M : List Kn} {id r : Int} (h : All2 L M) (hf : FindQ M id r) (hno : ∀ e ∈ L, e.id ≠ id) : r = -1 := by
  rcases find_all h hf with ⟨h1, _⟩ | ⟨j, hj, _, _, h2, _⟩
  · exact h1
  · exact absurd h2 (hno _ (List.getElem_mem hj))

/-! ### rows of what is known, written in place -/
theorem kn_set : ∀ (M : List Kn) {j r : Nat} (hj : j < M.length) (u : Value) (y : Kn), r < 4 → y.cs = M[j].cs.set r u → (M.flatMap Kn.cs).set (j * 4 + r) u = (M.set j y).flatMap Kn.cs
  | [], _, _, hj, _, _, _, _ => absurd hj (by simp)
  | x :: M, 0, r, _, u, y, hr, hy => by
    simp only [List.getElem_cons_zero] at hy
    rw [List.set_cons_zero, List.flatMap_cons, List.flatMap_cons, hy, Nat.zero_mul, Nat.zero_add, List.set_append_left _ _ (by rw [Kn.len]; exact hr)]
  | x :: M, j + 1, r, hj, u, y, hr, hy => by
    simp only [List.getElem_cons_succ] at hy
    rw [List.set_cons_succ, List.flatMap_cons, List.flatMap_cons, List.set_append_right _ _ (by rw [Kn.len]; omega), ← kn_set M (Nat.lt_of_succ_lt_succ (by simpa using hj)) u y hr hy]
    congr 2
    rw [Kn.len]; omega
theorem own_at0 {w : World} {base s n c : Nat} {e : TypeId} {A : Option Addr} {xs : List Value} (h : w.ownsRow base e s (.slice A n c) n xs) (hn : 0 < n) : ∃ g, A = some ⟨g, 0, none⟩ := by
  rcases h.2 with ⟨h1, h2⟩ | ⟨g, cap, cur, h1, _⟩
  · injection h1 with _ h3 _; omega
  · injection h1 with h3 _ _; exact ⟨g, h3⟩
/-- A row of what is known, one field of one written. -/
theorem own_kn {w : World} {base g c : Nat} {M : List Kn} {e : TypeId} (h : w.ownsRow base e 4 (.slice (some ⟨g, 0, none⟩) M.length c) M.length (M.flatMap Kn.cs)) {j r : Nat} (hj : j < M.length) (u : Value) (y : Kn) (hr : r < 4) (hy : y.cs = M[j].cs.set r u) :
    (w.setCell ⟨g, j * 4 + r, none⟩ u).ownsRow base e 4 (.slice (some ⟨g, 0, none⟩) M.length c) M.length ((M.set j y).flatMap Kn.cs) := by
  rw [← kn_set M hj u y hr hy]
  exact own_setN h _ _
theorem But.set_own (w : World) {g k : Nat} {n c : Nat} (u : Value) : But w (w.setCell ⟨g, k, none⟩ u) (fun i => (Value.slice (some ⟨g, 0, none⟩) n c).ownBlock = some i) :=
  (But.refl w (fun i => (Value.slice (some ⟨g, 0, none⟩) n c).ownBlock = some i)).setCell (p := ⟨g, k, none⟩) (fun _ => rfl) u
theorem own_frozen {w : World} {base s g n c : Nat} {e : TypeId} {xs : List Value} (h : w.ownsRow base e s (.slice (some ⟨g, 0, none⟩) n c) n xs) (i : Nat) : w.frozen? ⟨g, i, none⟩ = false := by
  rcases h.2 with ⟨h1, _⟩ | ⟨g', cap, cur, h1, _, h2, _⟩
  · injection h1 with h1 _ _; cases h1
  · injection h1 with h1 _ _
    injection h1 with h1
    injection h1 with h1
    subst h1
    exact Blk.frozen (show Blk w g e cur from h2) i
theorem add_at0 (g i : Nat) : Addr.add ⟨g, 0, none⟩ i = ⟨g, i, none⟩ := by
  unfold Addr.add
  split
  · rename_i h; simp_all
  · simp
theorem kn_at0 {w : World} {B g c : Nat} {M : List Kn} {e : TypeId} (h : w.ownsRow B e 4 (.slice (some ⟨g, 0, none⟩) M.length c) M.length (M.flatMap Kn.cs)) {k : Nat} (hk : k < M.length) :
    w.cell? ⟨g, k * 4, none⟩ = some (.int .i64 M[k].id) ∧ w.cell? ⟨g, k * 4 + 1, none⟩ = some (.slice M[k].A M[k].keys.length M[k].c) ∧ w.cell? ⟨g, k * 4 + 2, none⟩ = some (.bool M[k].dirty) ∧ w.cell? ⟨g, k * 4 + 3, none⟩ = some (.bool M[k].out) := by
  obtain ⟨ad, e, _, h0, h1, h2, h3⟩ := kn_at (Reads.of_own h) hk
  injection e with e
  subst e
  simp only [add_at0] at h0 h1 h2 h3
  exact ⟨h0, h1, h2, h3⟩
def Kn.touch (ks : List Key) (x : Kn) : Kn := { x with dirty := x.dirty || meets x.keys ks }
/-- The first j told that keys were touched. -/
def touchTo (M : List Kn) (ks : List Key) (j : Nat) : List Kn := (M.take j).map (Kn.touch ks) ++ M.drop j
theorem touchTo_len (M : List Kn) (ks : List Key) (j : Nat) : (touchTo M ks j).length = M.length := by unfold touchTo; simp; omega
theorem touchTo_zero (M : List Kn) (ks : List Key) : touchTo M ks 0 = M := by unfold touchTo; simp
theorem touchTo_all (M : List Kn) (ks : List Key) : touchTo M ks M.length = M.map (Kn.touch ks) := by unfold touchTo; simp
theorem touchTo_get (M : List Kn) (ks : List Key) {j : Nat} (hj : j < M.length) (h : j < (touchTo M ks j).length) : (touchTo M ks j)[j] = M[j] := by
  have h2 : (touchTo M ks j)[j]? = some M[j] := by
    unfold touchTo
    rw [List.getElem?_append_right (by simp; omega)]
    simp [Nat.min_eq_left (Nat.le_of_lt hj), hj]
  rw [List.getElem?_eq_getElem h] at h2
  exact Option.some.inj h2
theorem touchTo_set (M : List Kn) (ks : List Key) {j : Nat} (hj : j < M.length) : (touchTo M ks j).set j (M[j].touch ks) = touchTo M ks (j + 1) := by
  unfold touchTo
  rw [List.set_append_right _ _ (by simp; omega), List.take_succ_eq_append_getElem hj, List.map_append, List.drop_eq_getElem_cons hj, List.append_assoc]
  simp only [List.length_map, List.length_take, Nat.min_eq_left (Nat.le_of_lt hj), Nat.sub_self, List.set_cons_zero, List.map_cons, List.map_nil, List.singleton_append]
theorem All2.touched {L : List Ent} {M : List Kn} (h : All2 L M) (ks : List Key) : All2 (turnBy L (fun e => meets e.keys ks)) (M.map (Kn.touch ks)) := h.touch ks
theorem LInv.own_grow {o : Obj} {w0 w w' : World} {p bi bw : Nat} {rm T : Int} {lv : Value} {L : List Ent} {W : List (Key × Nat)} {v v' : Value} (h : QS w0 w ⟨p, bi, bw, rm, T, lv, L, W⟩ v) (hg : (w.alloc o).grownBy w' v.ownBlock) (hat : v'.ownBlock = v.ownBlock ∨ v'.ownBlock = some (w.alloc o).heap.size)
    (hlt : ∀ i, v'.ownBlock = some i → i < w'.heap.size) : QS w0 w' ⟨p, bi, bw, rm, T, lv, L, W⟩ v' := by
  refine h.grow (((But.refl w (fun i => v.ownBlock = some i)).alloc _).grown hg (fun i _ e => e)) (fun i hi => ?_)
  rcases hat with h1 | h1
  · exact .inl (h1 ▸ hi)
  · refine .inr ⟨?_, hlt i hi⟩
    rw [h1] at hi; cases hi; simp

/-- Taken: told in the row. -/
theorem own_taken {w : World} {base g c : Nat} {M : List Kn} {e : TypeId} (h : w.ownsRow base e 4 (.slice (some ⟨g, 0, none⟩) M.length c) M.length (M.flatMap Kn.cs)) {j : Nat} (hj : j < M.length) :
    ((w.setCell ⟨g, j * 4 + 2, none⟩ (.bool false)).setCell ⟨g, j * 4 + 3, none⟩ (.bool true)).ownsRow base e 4 (.slice (some ⟨g, 0, none⟩) M.length c) M.length ((M.set j { M[j] with dirty := false, out := true }).flatMap Kn.cs) := by
  have h1 := own_kn h hj (r := 2) (.bool false) { M[j] with dirty := false } (by omega) rfl
  have hl : (M.set j { M[j] with dirty := false }).length = M.length := by simp
  have hj2 : j < (M.set j { M[j] with dirty := false }).length := by omega
  have hg : (M.set j { M[j] with dirty := false })[j] = { M[j] with dirty := false } := by simp
  have h2 := own_kn (M := M.set j { M[j] with dirty := false }) (by rw [hl]; exact h1) hj2 (r := 3) (.bool true) { M[j] with dirty := false, out := true } (by omega) (by rw [hg]; rfl)
  rw [hl, List.set_set] at h2
  exact h2
theorem own_out {w : World} {base g c : Nat} {M : List Kn} {e : TypeId} (h : w.ownsRow base e 4 (.slice (some ⟨g, 0, none⟩) M.length c) M.length (M.flatMap Kn.cs)) {j : Nat} (hj : j < M.length) :
    (w.setCell ⟨g, j * 4 + 3, none⟩ (.bool false)).ownsRow base e 4 (.slice (some ⟨g, 0, none⟩) M.length c) M.length ((M.set j { M[j] with out := false }).flatMap Kn.cs) := own_kn h hj (r := 3) (.bool false) { M[j] with out := false } (by omega) rfl
theorem own_weak {w : World} {base base' s n : Nat} {e : TypeId} {v : Value} {xs : List Value} (h : w.ownsRow base e s v n xs) (hb : base' ≤ base) : w.ownsRow base' e s v n xs := by
  refine ⟨h.1, ?_⟩
  rcases h.2 with h0 | ⟨g, cap, cur, rfl, h1, r⟩
  · exact .inl h0
  · exact .inr ⟨g, cap, cur, rfl, Nat.le_trans hb h1, r⟩
theorem kin_set {w0 : World} {M : List Kn} (h : ∀ x ∈ M, KeysIn w0 w0.heap.size x.A x.c x.keys) {j : Nat} (hj : j < M.length) {y : Kn} (hy : y.A = M[j].A ∧ y.c = M[j].c ∧ y.keys = M[j].keys) : ∀ x ∈ M.set j y, KeysIn w0 w0.heap.size x.A x.c x.keys := by
  intro x hx
  rcases List.mem_or_eq_of_mem_set hx with h1 | rfl
  · exact h x h1
  · rw [hy.1, hy.2.1, hy.2.2]; exact h _ (List.getElem_mem hj)
/-- The row laid anew. -/
theorem QS.anew {w0 w w' : World} {a : QV} {v v' : Value} (h : QS w0 w a v) (hb : Below w.heap.size w w') (hv : ∀ i, v'.ownBlock = some i → w.heap.size ≤ i ∧ i < w'.heap.size) : QS w0 w' a v' := by
  refine ⟨QAt.below h.qa hb, h.la, fun i hi => ⟨(hv i hi).2, Nat.le_trans h.bel.size (hv i hi).1, fun ha => by have := QAt.lt h.qa ha; have := (hv i hi).1; omega⟩, below_after h.bel hb⟩
end Go.Proofs.Ytmcknfpohnobdaa
