/- QueueScript: two queues made and laid in an array; the lists that they tell. -/
import Derived.Test.YtmcknfpohnobdaaDoorScI19
namespace Go.Proofs.YtmcknfpohnobdaaDoor
set_option linter.unusedSimpArgs false
set_option linter.unusedVariables false
open Go.RowKit Go.MapKept Go.ChangeMaps Go.Maps

theorem opq_at4 {w : World} {B : Nat} {A : Option Addr} {es : List OpQ} (h : Reads w B 4 A es.length (es.flatMap OpQ.cs)) {k : Nat} (hk : k < es.length) :
    ∃ ad, A = some ad ∧ ad.block < B ∧ w.cell? (ad.add (k * 4)) = some (.int .i64 es[k].on) ∧ w.cell? ⟨(ad.add (k * 4)).block, (ad.add (k * 4)).off + 1, none⟩ = some (.int .i64 es[k].kind) ∧ w.cell? ⟨(ad.add (k * 4)).block, (ad.add (k * 4)).off + 2, none⟩ = some (.int .i64 es[k].id) ∧ w.cell? ⟨(ad.add (k * 4)).block, (ad.add (k * 4)).off + 3, none⟩ = some (.slice es[k].A es[k].keys.length es[k].c) := by
  obtain ⟨ad, e, hb, h0, h1⟩ := Reads.elem OpQ.len h hk
  exact ⟨ad, e, hb, h0 _ rfl, h1 1 _ (by omega) rfl, h1 2 _ (by omega) rfl, h1 3 _ (by omega) rfl⟩

abbrev nilS : Value := .slice none 0 0
/-- Two queues, and the array of them. -/
def PairQ (W1 w : World) (r0 r1 : Int) (v : Value) : Prop :=
  ∃ gx p0 bi0 bw0 p1 bi1 bw1, v = .pointer (some ⟨gx, 0, none⟩) ∧ Blk w gx 26 #[eP p0, eP p1] ∧ QAt w p0 (roomQ r0) 0 (.slice none 0 0) bi0 bw0 [] [] ∧ QAt w p1 (roomQ r1) 0 (.slice none 0 0) bi1 bw1 [] [] ∧
    (∀ i, OfQ p0 (.slice none 0 0) bi0 bw0 [] [] i → ¬ OfQ p1 (.slice none 0 0) bi1 bw1 [] [] i) ∧ (∀ i, OfQ p0 (.slice none 0 0) bi0 bw0 [] [] i → W1.heap.size ≤ i ∧ i ≠ gx) ∧ (∀ i, OfQ p1 (.slice none 0 0) bi1 bw1 [] [] i → W1.heap.size ≤ i ∧ i ≠ gx) ∧ W1.heap.size ≤ gx ∧ Below W1.heap.size W1 w
theorem pairQ_set {W1 w : World} {r0 r1 : Int} {gx p0 bi0 bw0 p1 bi1 bw1 : Nat} (hk : Blk w gx 26 #[.pointer none, .pointer none]) (q0 : QAt w p0 (roomQ r0) 0 (.slice none 0 0) bi0 bw0 [] []) (q1 : QAt w p1 (roomQ r1) 0 (.slice none 0 0) bi1 bw1 [] [])
    (dis : ∀ i, OfQ p0 (.slice none 0 0) bi0 bw0 [] [] i → ¬ OfQ p1 (.slice none 0 0) bi1 bw1 [] [] i) (h0 : ∀ i, OfQ p0 (.slice none 0 0) bi0 bw0 [] [] i → W1.heap.size ≤ i ∧ i ≠ gx) (h1 : ∀ i, OfQ p1 (.slice none 0 0) bi1 bw1 [] [] i → W1.heap.size ≤ i ∧ i ≠ gx) (hg : W1.heap.size ≤ gx) (hb : Below W1.heap.size W1 w) :
    PairQ W1 ((w.setCell ⟨gx, 0, none⟩ (eP p0)).setCell ⟨gx, 1, none⟩ (eP p1)) r0 r1 (.pointer (some ⟨gx, 0, none⟩)) := by
  have hbt : But w ((w.setCell ⟨gx, 0, none⟩ (eP p0)).setCell ⟨gx, 1, none⟩ (eP p1)) (fun i => i = gx) := ((But.refl w (fun i => i = gx)).setCell (p := ⟨gx, 0, none⟩) (fun _ => rfl) _).setCell (p := ⟨gx, 1, none⟩) (fun _ => rfl) _
  exact ⟨gx, p0, bi0, bw0, p1, bi1, bw1, rfl, (hk.set_ 0 (eP p0)).set_ 1 (eP p1), q0.but hbt (fun i hi => (h0 i hi).2), q1.but hbt (fun i hi => (h1 i hi).2), dis, h0, h1, hg, hb.trans (hbt.to_below (fun i hi => hi ▸ hg) hb.size)⟩
theorem pairQ_new {W1 w : World} {r0 r1 : Int} {p0 bi0 bw0 p1 bi1 bw1 : Nat} (q0 : QAt w p0 (roomQ r0) 0 (.slice none 0 0) bi0 bw0 [] []) (q1 : QAt w p1 (roomQ r1) 0 (.slice none 0 0) bi1 bw1 [] [])
    (dis : ∀ i, OfQ p0 (.slice none 0 0) bi0 bw0 [] [] i → ¬ OfQ p1 (.slice none 0 0) bi1 bw1 [] [] i) (h0 : ∀ i, OfQ p0 (.slice none 0 0) bi0 bw0 [] [] i → W1.heap.size ≤ i) (h1 : ∀ i, OfQ p1 (.slice none 0 0) bi1 bw1 [] [] i → W1.heap.size ≤ i) (hb : Below W1.heap.size W1 w) :
    PairQ W1 (w.alloc (.cells #[eP p0, eP p1] 26)) r0 r1 (.pointer (some ⟨w.heap.size, 0, none⟩)) := by
  have hbt : Below w.heap.size w (w.alloc (.cells #[eP p0, eP p1] 26)) := (Below.refl _ _).alloc (Nat.le_refl _) _
  exact ⟨_, p0, bi0, bw0, p1, bi1, bw1, rfl, Blk.new w _ _, q0.below hbt, q1.below hbt, dis, fun i hi => ⟨h0 i hi, Nat.ne_of_lt (QAt.lt q0 hi)⟩, fun i hi => ⟨h1 i hi, Nat.ne_of_lt (QAt.lt q1 hi)⟩, hb.size, hb.trans (hbt.mono hb.size)⟩
/-- Two of the document's, and the array of them. -/
def PairR (W1 w : World) (r0 r1 : Int) (v : Value) : Prop :=
  ∃ gx p0 p1, v = .pointer (some ⟨gx, 0, none⟩) ∧ Blk w gx 29 #[eP p0, eP p1] ∧ RAt w p0 (roomQ r0) (.slice none 0 0) [] ∧ RAt w p1 (roomQ r1) (.slice none 0 0) [] ∧ p0 ≠ p1 ∧ (W1.heap.size ≤ p0 ∧ p0 ≠ gx) ∧ (W1.heap.size ≤ p1 ∧ p1 ≠ gx) ∧ W1.heap.size ≤ gx ∧ Below W1.heap.size W1 w
theorem ofR0 {q i : Nat} (h : OfR q (.slice none 0 0) [] i) : i = q := by
  rcases h with q | q | ⟨e, he, _⟩
  · exact q
  · cases q
  · cases he
theorem pairR_set {W1 w : World} {r0 r1 : Int} {gx p0 p1 : Nat} (hk : Blk w gx 29 #[.pointer none, .pointer none]) (q0 : RAt w p0 (roomQ r0) (.slice none 0 0) []) (q1 : RAt w p1 (roomQ r1) (.slice none 0 0) [])
    (dis : p0 ≠ p1) (h0 : W1.heap.size ≤ p0 ∧ p0 ≠ gx) (h1 : W1.heap.size ≤ p1 ∧ p1 ≠ gx) (hg : W1.heap.size ≤ gx) (hb : Below W1.heap.size W1 w) :
    PairR W1 ((w.setCell ⟨gx, 0, none⟩ (eP p0)).setCell ⟨gx, 1, none⟩ (eP p1)) r0 r1 (.pointer (some ⟨gx, 0, none⟩)) := by
  have hbt : But w ((w.setCell ⟨gx, 0, none⟩ (eP p0)).setCell ⟨gx, 1, none⟩ (eP p1)) (fun i => i = gx) := ((But.refl w (fun i => i = gx)).setCell (p := ⟨gx, 0, none⟩) (fun _ => rfl) _).setCell (p := ⟨gx, 1, none⟩) (fun _ => rfl) _
  exact ⟨gx, p0, p1, rfl, (hk.set_ 0 (eP p0)).set_ 1 (eP p1), q0.but hbt (fun i hi => ofR0 hi ▸ h0.2), q1.but hbt (fun i hi => ofR0 hi ▸ h1.2), dis, h0, h1, hg, hb.trans (hbt.to_below (fun i hi => hi ▸ hg) hb.size)⟩
theorem pairR_new {W1 w : World} {r0 r1 : Int} {p0 p1 : Nat} (q0 : RAt w p0 (roomQ r0) (.slice none 0 0) []) (q1 : RAt w p1 (roomQ r1) (.slice none 0 0) [])
    (dis : p0 ≠ p1) (h0 : W1.heap.size ≤ p0) (h1 : W1.heap.size ≤ p1) (hb : Below W1.heap.size W1 w) :
    PairR W1 (w.alloc (.cells #[eP p0, eP p1] 29)) r0 r1 (.pointer (some ⟨w.heap.size, 0, none⟩)) := by
  have hbt : Below w.heap.size w (w.alloc (.cells #[eP p0, eP p1] 29)) := (Below.refl _ _).alloc (Nat.le_refl _) _
  exact ⟨_, p0, p1, rfl, Blk.new w _ _, q0.below hbt, q1.below hbt, dis, ⟨h0, Nat.ne_of_lt q0.blk.lt⟩, ⟨h1, Nat.ne_of_lt q1.blk.lt⟩, hb.size, hb.trans (hbt.mono hb.size)⟩
/-- The one at 0, the other elsewhere. -/
def duo {α : Type} (x y : α) : Nat → α := fun j => if j = 0 then x else y
theorem duo0 {α : Type} (x y : α) : duo x y 0 = x := rfl
theorem duo1 {α : Type} (x y : α) : duo x y 1 = y := rfl
/-- Both made: what the loop keeps, ahead of it. -/
theorem scr_start {w0 W1 w1 w : World} {r0 r1 : Int} {vx vr : Value} (h01 : Below w0.heap.size w0 W1) (hq : PairQ W1 w1 r0 r1 vx) (hr : PairR w1 w r0 r1 vr) :
    ∃ gx gr a d, vx = .pointer (some ⟨gx, 0, none⟩) ∧ vr = .pointer (some ⟨gr, 0, none⟩) ∧ Scr w0 w 0 gx gr a d (.slice none 0 0) (.slice none 0 0) [] [] := by
  obtain ⟨gx, p0, bi0, bw0, p1, bi1, bw1, rfl, bx, q0, q1, dis, l0, l1, hgx, b1⟩ := hq
  obtain ⟨gr, s0, s1, rfl, br, t0, t1, dis2, m0, m1, hgr, b2⟩ := hr
  have hs1 := h01.size
  have hs2 := b1.size
  have hs3 := b2.size
  have z0 : ∀ i, OfQ p0 (.slice none 0 0) bi0 bw0 [] [] i → i < w1.heap.size := fun i hi => QAt.lt q0 hi
  have z1 : ∀ i, OfQ p1 (.slice none 0 0) bi1 bw1 [] [] i → i < w1.heap.size := fun i hi => QAt.lt q1 hi
  have hbel : Below w0.heap.size w0 w := (h01.trans (b1.mono hs1)).trans (b2.mono (Nat.le_trans hs1 hs2))
  have hso : ∀ i, Sown gx gr (.slice none 0 0) (.slice none 0 0) [] [] i → i = gx ∨ i = gr := by
    rintro i (h | h | h | h | ⟨x, hx, _⟩ | ⟨x, hx, _⟩)
    · exact .inl h
    · exact .inr h
    · cases h
    · cases h
    · cases hx
    · cases hx
  have hgl := bx.lt
  have hrl := br.lt
  have hp : ∀ (p bi bw s : Nat) (r : Int), QAt w1 p (roomQ r) 0 (.slice none 0 0) bi bw [] [] → (∀ i, OfQ p (.slice none 0 0) bi bw [] [] i → W1.heap.size ≤ i ∧ i ≠ gx) → RAt w s (roomQ r) (.slice none 0 0) [] → w1.heap.size ≤ s ∧ s ≠ gr →
      PM w0 w ⟨p, bi, bw, roomQ r, 0, .slice none 0 0, [], []⟩ ⟨s, roomQ r, .slice none 0 0, []⟩ (Sown gx gr (.slice none 0 0) (.slice none 0 0) [] []) := by
    intro p bi bw s r q l t m
    have z : ∀ i, OfQ p (.slice none 0 0) bi bw [] [] i → i < w1.heap.size := fun i hi => QAt.lt q hi
    refine ⟨q.below b2, t, fun i hi hi2 => ?_, fun i hi => Nat.le_trans hs1 (l i hi).1, fun i hi => ?_, fun i hi => ⟨?_, fun q => ?_, fun q => ?_⟩, fun i hi => ?_, hbel⟩
    · have h1 : i = s := ofR0 hi2; have h2 := z i hi; omega
    · have h1 : i = s := ofR0 hi; omega
    · rcases hso i hi with rfl | rfl <;> omega
    · have h1 : i < w1.heap.size := z i q; have h2 := (l i q).2; rcases hso i hi with h | h <;> omega
    · have h1 : i = s := ofR0 q; rcases hso i hi with h | h <;> omega
    · rcases hso i hi with rfl | rfl <;> omega
  refine ⟨gx, gr, duo ⟨p0, bi0, bw0, roomQ r0, 0, .slice none 0 0, [], []⟩ ⟨p1, bi1, bw1, roomQ r1, 0, .slice none 0 0, [], []⟩, duo ⟨s0, roomQ r0, .slice none 0 0, []⟩ ⟨s1, roomQ r1, .slice none 0 0, []⟩, rfl, rfl, bx.below b2 hgl, br, fun j hj => ?_, fun j hj => ?_, fun j k hj hk hne i hi => ?_, fun j hj => ?_, World.ownsRow_nil _ _ _ _, World.ownsRow_nil _ _ _ _, (fun i hi => by cases hi), Nat.le_refl _, Nat.le_refl _, (fun x hx => by cases hx), (fun x hx => by cases hx), (fun x hx => by cases hx), ⟨fun _ => 0, fun j hj => by simp at hj⟩⟩
  · obtain rfl | rfl : j = 0 ∨ j = 1 := by omega
    · exact hp p0 bi0 bw0 s0 r0 q0 l0 t0 m0
    · exact hp p1 bi1 bw1 s1 r1 q1 l1 t1 m1
  · obtain rfl | rfl : j = 0 ∨ j = 1 := by omega
    · exact ⟨rfl, RelL.nil, fun x hx => by cases hx⟩
    · exact ⟨rfl, RelL.nil, fun x hx => by cases hx⟩
  · obtain rfl | rfl : j = 0 ∨ j = 1 := by omega
    · obtain rfl : k = 1 := by omega
      refine ⟨fun h => ?_, fun h => ?_⟩
      · rcases hi with hi | hi
        · exact dis i hi h
        · have h1 : i = s0 := ofR0 hi; have h2 : i < w1.heap.size := z1 i h; omega
      · have h1 : i = s1 := ofR0 h
        rcases hi with hi | hi
        · have h2 : i < w1.heap.size := z0 i hi; omega
        · have h2 : i = s0 := ofR0 hi; omega
    · obtain rfl : k = 0 := by omega
      refine ⟨fun h => ?_, fun h => ?_⟩
      · rcases hi with hi | hi
        · exact dis i h hi
        · have h1 : i = s1 := ofR0 hi; have h2 : i < w1.heap.size := z0 i h; omega
      · have h1 : i = s0 := ofR0 h
        rcases hi with hi | hi
        · have h2 : i < w1.heap.size := z1 i hi; omega
        · have h2 : i = s1 := ofR0 hi; omega
  · obtain rfl | rfl : j = 0 ∨ j = 1 := by omega
    · exact Nat.zero_le _
    · exact Nat.zero_le _
/-- What tells a list: a new one. -/
def GivesL (w : World) (xs : List Int) (e : Ending) (w' : World) : Prop := ∃ A c, e = .returned (.slice A xs.length c) ∧ w'.ownsRow w.heap.size 3 1 (.slice A xs.length c) xs.length (intsC xs) ∧ Below w.heap.size w w'
theorem gives_mk {f : FuncId} {v : Value} {w : World} {n : Nat} {xs : List Int} (hn : n = xs.length) (h : Calls Tryd.prog f #[v] w fun e w' => ∃ v, e = .returned v ∧ w'.ownsRow w.heap.size 3 1 v n (intsC xs) ∧ Below w.heap.size w w') : Calls Tryd.prog f #[v] w (GivesL w xs) := by
  subst hn
  refine h.mono ?_
  rintro e w' ⟨v, rfl, h1, h2⟩
  obtain ⟨A, c, rfl⟩ := own_slice h1
  exact ⟨A, c, rfl, h1, h2⟩
section
variable {w0 w : World} {n gx gr : Nat} {a : Nat → QV} {d : Nat → RV} {ov wv : Value} {P Q : List IL}
def idsOf (a : Nat → QV) (j : Nat) : List Int := (a j).L.map (·.id)
def idlOf (a : Nat → QV) (j : Nat) : List Int := ((a j).L.filter (fun x => !x.rdy && !x.tkn)).map (·.id)
theorem Scr.idsN (h : Scr w0 w n gx gr a d ov wv P Q) {j : Nat} (hj : j < 2) : (idsOf a j).length ≤ n := by unfold idsOf; rw [List.length_map]; exact h.len j hj
theorem Scr.idlN (h : Scr w0 w n gx gr a d ov wv P Q) {j : Nat} (hj : j < 2) : (idlOf a j).length ≤ n := by unfold idlOf; rw [List.length_map]; exact Nat.le_trans (List.length_filter_le _ _) (h.len j hj)
theorem Scr.items (h : Scr w0 w n gx gr a d ov wv P Q) (hn : n ≤ 2932031007400) {j : Nat} (hj : j < 2) : Calls Tryd.prog 8 #[.pointer (some ⟨(a j).p, 0, none⟩)] w (GivesL w (idsOf a j)) :=
  gives_mk (by unfold idsOf; simp) (itemsQ_calls w (h.pm j hj).qa (by have := h.len j hj; omega))
theorem Scr.idle (h : Scr w0 w n gx gr a d ov wv P Q) (hn : n ≤ 2932031007400) {j : Nat} (hj : j < 2) : Calls Tryd.prog 10 #[.pointer (some ⟨(a j).p, 0, none⟩)] w (GivesL w (idlOf a j)) :=
  gives_mk (by unfold idlOf; simp) (idleQ_calls w (h.pm j hj).qa (by have := h.len j hj; omega))
theorem Scr.itemsR (h : Scr w0 w n gx gr a d ov wv P Q) (hn : n ≤ 2932031007400) {j : Nat} (hj : j < 2) : Calls Tryd.prog 9 #[.pointer (some ⟨(d j).q, 0, none⟩)] w (GivesL w (idsOf a j)) := by
  have hl := (h.sm j hj).rel.1
  have := h.len j hj
  have := itemsR_calls w (h.pm j hj).ra (by omega)
  unfold idsOf
  rw [(h.sm j hj).rel.ids]
  exact gives_mk (by simp) this
theorem Scr.idlesR (h : Scr w0 w n gx gr a d ov wv P Q) (hn : n ≤ 2932031007400) {j : Nat} (hj : j < 2) : Calls Tryd.prog 11 #[.pointer (some ⟨(d j).q, 0, none⟩)] w (GivesL w (idlOf a j)) := by
  have hl := (h.sm j hj).rel.1
  have := h.len j hj
  have := idlesR_calls w (h.pm j hj).ra (by omega)
  unfold idlOf
  rw [(h.sm j hj).rel.idles]
  exact gives_mk (by simp) this
end
end Go.Proofs.YtmcknfpohnobdaaDoor
