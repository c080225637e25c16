/- QueueKnown: a queue in memory behind one name; calls of a script in memory. -/
import Derived.Test.YtmcknfpohnobdaaDoorQ11
import Derived.Test.YtmcknfpohnobdaaDoorQ8
import Derived.Test.YtmcknfpohnobdaaDoorOpenD
namespace Go.Proofs.YtmcknfpohnobdaaDoor
set_option linter.unusedSimpArgs false
set_option linter.unusedVariables false
open Go.RowKit Go.MapKept Go.ChangeMaps Go.Maps

theorem row_addo (g o i : Nat) : Addr.add ⟨g, o, none⟩ i = ⟨g, o + i, none⟩ := by
  unfold Addr.add
  split
  · rename_i h; simp_all
  · rfl
theorem row_add0_ (g i : Nat) : Addr.add ⟨g, 0, none⟩ i = ⟨g, i, none⟩ := by rw [row_addo, Nat.zero_add]
/-- A queue of its own behind w0. -/
def QB (w0 w : World) (p : Nat) (room : Int) (L : List Ent) : Prop :=
  ∃ bi bw turns lv W, QAt w p room turns lv bi bw L W ∧ (∀ i, OfQ p lv bi bw L W i → w0.heap.size ≤ i) ∧ Below w0.heap.size w0 w
section
variable {w0 w w' : World} {p : Nat} {room : Int} {L : List Ent}
theorem QB.bel (h : QB w0 w p room L) : Below w0.heap.size w0 w := by obtain ⟨_, _, _, _, _, _, _, h⟩ := h; exact h
theorem QB.below (h : QB w0 w p room L) (hb : Below w.heap.size w w') : QB w0 w' p room L := by
  obtain ⟨bi, bw, turns, lv, W, h1, h2, h3⟩ := h
  exact ⟨bi, bw, turns, lv, W, h1.below hb, h2, below_after h3 hb⟩
theorem keys_lit {S : Nat → Prop} {cs : Array Value} {ks : List Key} (hcs : cs.toList = keysC ks) (hS : ¬ S w.heap.size) (hb : But (w.alloc (.cells cs 48)) w' S) :
    Reads w' w'.heap.size 2 (some ⟨w.heap.size, 0, none⟩) ks.length (keysC ks) := by
  have h := (Blk.new w 48 cs).but hb hS
  refine ⟨flat_length Key.len ks, fun _ => ⟨_, rfl, h.lt, fun j u hu => ?_⟩⟩
  rw [row_add0_, h.cell, ← hu, ← hcs]
  simp
theorem QB.put (h : QB w0 w p room L) (id : Int) (hid : wfI id) (ks : List Key) (c : Nat) (cs : Array Value) (hcs : cs.toList = keysC ks) (hl : L.length < 1000) (hk : ks.length ≤ 1000) (n : Int) (hn : putN L room id = n) :
    Calls Tryd.prog 21 #[.pointer (some ⟨p, 0, none⟩), .int .i64 id, .slice (some ⟨w.heap.size, 0, none⟩) ks.length c] (w.alloc (.cells cs 48))
      fun e w' => ∃ L', e = .returned (errV n) ∧ QB w0 w' p room L' ∧ (n ≠ 0 → L' = L) ∧ (n = 0 → ∃ y : Ent, L' = L ++ [y] ∧ y.id = id ∧ y.keys = ks ∧ y.rdy = false ∧ y.tkn = false ∧ y.tch = false) := by
  subst hn
  obtain ⟨bi, bw, turns, lv, W, h1, h2, h3⟩ := h
  have hA := (Below.refl w.heap.size w).alloc (Nat.le_refl _) (.cells cs 48)
  refine (put_calls id hid ks (some ⟨w.heap.size, 0, none⟩) c _ (h1.below hA) (fun w' hb => keys_lit hcs (fun hs => absurd (h1.lt hs) (by omega)) hb) (fun h => by cases h) (by omega) (by omega)).mono ?_
  rintro e w2 ⟨L', t', lv', W', rfl, hpq⟩
  have hB := below_after h3 hA
  refine ⟨L', rfl, ⟨bi, bw, t', lv', W', hpq.q, fun i hi => ?_, hB.trans (hpq.but.to_below h2 hB.size)⟩, hpq.no, hpq.yes⟩
  rcases hpq.new i hi with h | h
  · exact h2 i h
  · exact Nat.le_trans hB.size h
theorem QB.putNil (h : QB w0 w p room L) (id : Int) (hid : wfI id) (hl : L.length < 1000) (n : Int) (hn : putN L room id = n) :
    Calls Tryd.prog 21 #[.pointer (some ⟨p, 0, none⟩), .int .i64 id, .slice none 0 0] w
      fun e w' => ∃ L', e = .returned (errV n) ∧ QB w0 w' p room L' ∧ (n ≠ 0 → L' = L) := by
  subst hn
  obtain ⟨bi, bw, turns, lv, W, h1, h2, h3⟩ := h
  refine (put_calls id hid [] none 0 _ h1 (fun w' hb => ⟨rfl, fun h => absurd h (by simp)⟩) (fun _ => ⟨rfl, rfl⟩) (by omega) (by simp)).mono ?_
  rintro e w2 ⟨L', t', lv', W', rfl, hpq⟩
  refine ⟨L', rfl, ⟨bi, bw, t', lv', W', hpq.q, fun i hi => ?_, h3.trans (hpq.but.to_below h2 h3.size)⟩, hpq.no⟩
  rcases hpq.new i hi with h | h
  · exact h2 i h
  · exact Nat.le_trans h3.size h
theorem QB.touch (h : QB w0 w p room L) (ks : List Key) (c : Nat) (cs : Array Value) (hcs : cs.toList = keysC ks) (hl : L.length < 1000) (hk : ks.length ≤ 1000) (n : Nat) (L' : List Ent) (hn : freshBy L (fun e => meets e.keys ks) = n) (hL : turnBy L (fun e => meets e.keys ks) = L') :
    Calls Tryd.prog 23 #[.pointer (some ⟨p, 0, none⟩), .slice (some ⟨w.heap.size, 0, none⟩) ks.length c] (w.alloc (.cells cs 48))
      fun e w' => e = .returned (.int .i64 n) ∧ QB w0 w' p room L' := by
  subst hn hL
  obtain ⟨bi, bw, turns, lv, W, h1, h2, h3⟩ := h
  have hA := (Below.refl w.heap.size w).alloc (Nat.le_refl _) (.cells cs 48)
  refine (touch_calls ks (some ⟨w.heap.size, 0, none⟩) c _ (h1.below hA) (fun w' hb => keys_lit hcs (fun hs => absurd (h1.lt hs) (by omega)) hb) (by omega) (by omega)).mono ?_
  rintro e w2 ⟨rfl, hq, hb⟩
  have hB := below_after h3 hA
  exact ⟨rfl, bi, bw, turns, lv, W, hq, fun i hi => h2 i (ofq_core (turnBy_core _ _) hi), hB.trans (hb.to_below h2 hB.size)⟩
theorem QB.take (h : QB w0 w p room L) (hl : L.length < 1000) : Calls Tryd.prog 24 #[.pointer (some ⟨p, 0, none⟩)] w
    fun e w' => ∃ L' n ok, e = .returned (.tuple #[.int .i64 n, .bool ok]) ∧ TakeQ L L' n ok ∧ QB w0 w' p room L' := by
  obtain ⟨bi, bw, turns, lv, W, h1, h2, h3⟩ := h
  refine (take_calls w h1 (by omega)).mono ?_
  rintro e w2 ⟨L', n, ok, rfl, ht, hc, hq, hb⟩
  exact ⟨L', n, ok, rfl, ht, bi, bw, turns, lv, W, hq, fun i hi => h2 i (ofq_core hc hi), h3.trans (hb.to_below h2 h3.size)⟩
theorem QB.back (h : QB w0 w p room L) (id : Int) (hid : wfI id) : Calls Tryd.prog 25 #[.pointer (some ⟨p, 0, none⟩), .int .i64 id] w
    fun e w' => ∃ L' ok, e = .returned (.bool ok) ∧ BackQ L L' id ok ∧ QB w0 w' p room L' := by
  obtain ⟨bi, bw, turns, lv, W, h1, h2, h3⟩ := h
  refine (back_calls id hid w h1).mono ?_
  rintro e w2 ⟨L', ok, rfl, ht, hc, hq, hb⟩
  exact ⟨L', ok, rfl, ht, bi, bw, turns, lv, W, hq, fun i hi => h2 i (ofq_core hc hi), h3.trans (hb.to_below h2 h3.size)⟩
theorem QB.idle (h : QB w0 w p room L) (hl : L.length < 1000) (n : Nat) (hn : (L.filter (fun x => !x.rdy && !x.tkn)).length = n) : Calls Tryd.prog 10 #[.pointer (some ⟨p, 0, none⟩)] w
    fun e w' => ∃ A c, e = .returned (.slice A n c) ∧ QB w0 w' p room L := by
  subst hn
  have h0 := h
  obtain ⟨bi, bw, turns, lv, W, h1, h2, h3⟩ := h
  refine (idleQ_calls w h1 (by omega)).mono ?_
  rintro e w2 ⟨v, rfl, ho, hb⟩
  obtain ⟨A, c, rfl⟩ := own_slice ho
  exact ⟨A, c, rfl, h0.below hb⟩
theorem QB.items (h : QB w0 w p room L) (hl : L.length < 1000) (xs : List Int) (hx : L.map (·.id) = xs) : Calls Tryd.prog 8 #[.pointer (some ⟨p, 0, none⟩)] w
    fun e w' => ∃ A c, e = .returned (.slice A xs.length c) ∧ w'.ownsRow w.heap.size 3 1 (.slice A xs.length c) xs.length (intsC xs) ∧ QB w0 w' p room L ∧ Below w.heap.size w w' := by
  have hxl : L.length = xs.length := by rw [← hx, List.length_map]
  have h0 := h
  obtain ⟨bi, bw, turns, lv, W, h1, h2, h3⟩ := h
  refine (itemsQ_calls w h1 (by omega)).mono ?_
  rintro e w2 ⟨v, rfl, ho, hb⟩
  rw [hx, hxl] at ho
  obtain ⟨A, c, rfl⟩ := own_slice ho
  exact ⟨A, c, rfl, ho, h0.below hb, hb⟩
/-- A call of a script whose keys lie in memory of one's own. -/
def KAt (w : World) (x : OpQ) : Prop := wfI x.id ∧ x.keys.length ≤ 1000 ∧ ((x.A = none ∧ x.keys = [] ∧ x.c = 0) ∨ ∃ b o cur, x.A = some ⟨b, o, none⟩ ∧ Blk w b 48 cur ∧ ∀ j u, (keysC x.keys)[j]? = some u → cur[o + j]? = some u)
theorem KAt.in_ {x : OpQ} (h : KAt w x) : KeysIn w w.heap.size x.A x.c x.keys ∧ wfI x.id := by
  obtain ⟨h1, h2, h3 | ⟨b, o, cur, h3, h4, h5⟩⟩ := h
  · exact ⟨⟨⟨by rw [h3.2.1]; rfl, fun h => absurd h (by rw [h3.2.1]; simp)⟩, fun _ => h3.2, by omega⟩, h1⟩
  · refine ⟨⟨⟨flat_length Key.len _, fun _ => ⟨_, h3, h4.lt, fun j u hu => ?_⟩⟩, (fun h => by rw [h3] at h; cases h), by omega⟩, h1⟩
    rw [← h5 j u hu, show Addr.add ⟨b, o, none⟩ j = ⟨b, o + j, none⟩ from row_addo b o j, h4.cell]
theorem KAt.keep {x : OpQ} (h : KAt w x) (hk : ∀ b cur, Blk w b 48 cur → Blk w' b 48 cur) : KAt w' x := by
  obtain ⟨h1, h2, h3 | ⟨b, o, cur, h3, h4, h5⟩⟩ := h
  · exact ⟨h1, h2, .inl h3⟩
  · exact ⟨h1, h2, .inr ⟨b, o, cur, h3, hk b cur h4, h5⟩⟩
theorem KAt.below {x : OpQ} (h : KAt w x) (hb : Below w.heap.size w w') : KAt w' x := h.keep (fun b cur hk => hk.below hb hk.lt)
/-- A script in memory of one's own, as QueueScript takes it. -/
structure Scp (w : World) (A : Option Addr) (os : List OpQ) : Prop where
  rd : Reads w w.heap.size 4 A os.length (os.flatMap OpQ.cs)
  ks : ∀ x ∈ os, KAt w x
  le : os.length ≤ 1000000
theorem Scp.below {A : Option Addr} {os : List OpQ} (h : Scp w A os) (hb : Below w.heap.size w w') : Scp w' A os := ⟨(h.rd.below hb).more hb.size, fun x hx => (h.ks x hx).below hb, h.le⟩
end
end Go.Proofs.YtmcknfpohnobdaaDoor
