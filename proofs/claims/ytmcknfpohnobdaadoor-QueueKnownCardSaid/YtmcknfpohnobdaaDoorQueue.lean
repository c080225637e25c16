/- A queue in memory. -/
import Derived.Test.YtmcknfpohnobdaaDoorQKeys
import Derived.Test.YtmcknfpohnobdaaDoorPlain
import Derived.Test.YtmcknfpohnobdaaDoorWide
namespace Go.Proofs.YtmcknfpohnobdaaDoor
set_option linter.unusedSimpArgs false
set_option linter.unusedVariables false
open Go.RowKit Go.MapKept Go.ChangeMaps Go.Maps

/-- Nothing of what lay in w has turned but the blocks in S. -/
structure But (w w' : World) (S : Nat → Prop) : Prop where
  os : w'.os = w.os
  tape : w'.tape = w.tape
  output : w'.output = w.output
  size : w.heap.size ≤ w'.heap.size
  block : ∀ k, k < w.heap.size → ¬ S k → w'.heap[k]? = w.heap[k]?
section
variable {a b c w w' : World} {S S' : Nat → Prop}
theorem But.refl (w : World) (S : Nat → Prop) : But w w S := ⟨rfl, rfl, rfl, Nat.le_refl _, fun _ _ _ => rfl⟩
theorem But.of_below (h : Below w.heap.size w w') (S : Nat → Prop) : But w w' S := ⟨h.os, h.tape, h.output, h.size, fun k hk _ => h.block k hk⟩
theorem But.below (h : But w w' (fun _ => False)) : Below w.heap.size w w' := ⟨h.os, h.tape, h.output, h.size, fun k hk => h.block k hk (fun h => h)⟩
theorem But.trans (h : But a b S) (k : But b c S') (hS : ∀ i, i < a.heap.size → S' i → S i) : But a c S :=
  ⟨k.os.trans h.os, k.tape.trans h.tape, k.output.trans h.output, Nat.le_trans h.size k.size, fun i hi hn => (k.block i (Nat.lt_of_lt_of_le hi h.size) (fun hs => hn (hS i hi hs))).trans (h.block i hi hn)⟩
theorem But.weak (h : But a b S) (hS : ∀ i, i < a.heap.size → S i → S' i) : But a b S' := ⟨h.os, h.tape, h.output, h.size, fun i hi hn => h.block i hi (fun hs => hn (hS i hi hs))⟩
theorem But.grown {row : Option Nat} (h : But a b S) (hg : b.grownBy c row) (hr : ∀ i, i < a.heap.size → row = some i → S i) : But a c S :=
  ⟨hg.os.trans h.os, hg.tape.trans h.tape, hg.output.trans h.output, Nat.le_trans h.size hg.size, fun i hi hn => (hg.block i (Nat.lt_of_lt_of_le hi h.size) (fun e => hn (hr i hi e.symm))).trans (h.block i hi hn)⟩
theorem But.alloc (h : But a b S) (o : Obj) : But a (b.alloc o) S := h.trans (S' := S) (But.of_below ((Below.refl _ _).alloc (Nat.le_refl _) _) S) (fun _ _ h => h)
theorem But.setCell (h : But a b S) {p : Addr} (hp : p.block < a.heap.size → S p.block) (u : Value) : But a (b.setCell p u) S :=
  h.trans (S' := fun i => i = p.block) ⟨rfl, rfl, rfl, by simp [World.setCell], fun i _ hn => Below.heap_setCell b p u i hn⟩ (fun i hi e => by subst e; exact hp hi)
theorem But.drew (h : But a b S) : But a b.drew S := ⟨h.os, h.tape, h.output, h.size, h.block⟩
theorem But.to_below {B : Nat} (h : But a b S) (hS : ∀ i, S i → B ≤ i) (hB : B ≤ a.heap.size) : Below B a b :=
  ⟨h.os, h.tape, h.output, h.size, fun k hk => h.block k (by omega) (fun hs => by have := hS k hs; omega)⟩
theorem Blk.but {g : Nat} {t : TypeId} {cs : Array Value} (h : Blk w g t cs) (hb : But w w' S) (hg : ¬ S g) : Blk w' g t cs := (hb.block g h.lt hg).trans h
theorem own_but {base : Nat} {e : TypeId} {size n : Nat} {v : Value} {xs : List Value} (h : w.ownsRow base e size v n xs) (hb : But w w' S) (hs : ∀ b, v.ownBlock = some b → ¬ S b) : w'.ownsRow base e size v n xs := by
  refine ⟨h.1, ?_⟩
  rcases h.2 with h0 | ⟨g, cap, cur, rfl, h1, h2, h3⟩
  · exact .inl h0
  · exact .inr ⟨g, cap, cur, rfl, h1, (hb.block g (Array.getElem?_eq_some_iff.1 h2).1 (hs g rfl)).trans h2, h3⟩
theorem MapT.but {K V : Type} {ek : K → Value} {ev : V → Value} {g : Nat} {M : List (K × V)} (h : MapT ek ev w g M) (hb : But w w' S) (hg : ¬ S g) : MapT ek ev w' g M := h.of_block (hb.block g h.lt hg)
end
theorem own_slice {w : World} {base : Nat} {e : TypeId} {size n : Nat} {v : Value} {xs : List Value} (h : w.ownsRow base e size v n xs) : ∃ A c, v = .slice A n c := by
  rcases h.2 with h0 | ⟨g, cap, cur, rfl, _⟩
  · exact ⟨none, 0, by rw [h0.1, h0.2]⟩
  · exact ⟨_, _, rfl⟩
theorem own_base0 {w : World} {base : Nat} {e : TypeId} {size n : Nat} {v : Value} {xs : List Value} (h : w.ownsRow base e size v n xs) : w.ownsRow 0 e size v n xs := by
  refine ⟨h.1, ?_⟩
  rcases h.2 with h0 | ⟨g, cap, cur, rfl, h1, r⟩
  · exact .inl h0
  · exact .inr ⟨g, cap, cur, rfl, Nat.zero_le _, r⟩
theorem own_lt {w : World} {base : Nat} {e : TypeId} {size n : Nat} {v : Value} {xs : List Value} (h : w.ownsRow base e size v n xs) {k : Nat} (hk : v.ownBlock = some k) : k < w.heap.size := by
  rcases h.2 with h0 | ⟨g, cap, cur, rfl, h1, h2, h3⟩
  · rw [h0.1] at hk; cases hk
  · cases hk
    exact (Array.getElem?_eq_some_iff.1 h2).1
theorem own_own_ne {w : World} {b1 b2 s1 s2 n1 n2 : Nat} {t1 t2 : TypeId} {v1 v2 : Value} {xs1 xs2 : List Value} (h : w.ownsRow b1 t1 s1 v1 n1 xs1) (h' : w.ownsRow b2 t2 s2 v2 n2 xs2) (hne : t1 ≠ t2) {i : Nat} (hi : v1.ownBlock = some i) : v2.ownBlock ≠ some i := by
  intro hj
  rcases h.2 with h0 | ⟨g, cap, cur, rfl, h1, h2, h3⟩
  · rw [h0.1] at hi; cases hi
  · cases hi
    exact own_blk_ne h' (show Blk w g t1 cur from h2) hne.symm hj
theorem blk_map_ne {K V : Type} {ek : K → Value} {ev : V → Value} {w : World} {g m : Nat} {t : TypeId} {cs : Array Value} {M : List (K × V)} (h : Blk w g t cs) (hm : MapT ek ev w m M) : g ≠ m := fun e => hm.not_cells (t := t) (cs := cs) (fr := (0, 0)) (e ▸ h)
theorem own_map_ne {K V : Type} {ek : K → Value} {ev : V → Value} {w : World} {m base s n : Nat} {t : TypeId} {v : Value} {xs : List Value} {M : List (K × V)} (h : w.ownsRow base t s v n xs) (hm : MapT ek ev w m M) : v.ownBlock ≠ some m := by
  intro hi
  rcases h.2 with h0 | ⟨g, cap, cur, rfl, h1, h2, h3⟩
  · rw [h0.1] at hi; cases hi
  · cases hi
    exact hm.not_cells h2

/-- An entry: where it lies; what it holds. -/
structure Ent where
  b : Nat
  A : Option Addr
  c : Nat
  id : Int
  turn : Int
  keys : List Key
  rdy : Bool
  tkn : Bool
  tch : Bool
def Ent.kv (e : Ent) : Value := .slice e.A e.keys.length e.c
def Ent.cs (e : Ent) : Array Value := #[.int .i64 e.id, .int .i64 e.turn, e.kv, .bool e.rdy, .bool e.tkn, .bool e.tch]
def entC (L : List Ent) : List Value := L.map (fun e => eP e.b)
/-- Who waits for a key, and how often. -/
def waitsL (L : List Ent) (k : Key) : List (Nat × Int) := (L.filter (fun e => decide (k ∈ e.keys))).map (fun e => (e.b, (e.keys.count k : Int)))

/-- The map of those that wait: at k it holds F k. -/
structure WAt (w : World) (bw : Nat) (W : List (Key × Nat)) (F : Key → List (Nat × Int)) : Prop where
  top : MapT eK eM w bw W
  inn : ∀ k m, (k, m) ∈ W → MapT eP eI w m (F k)
  has : ∀ k, (∃ m, (k, m) ∈ W) ↔ F k ≠ []
  nk : (W.map (·.1)).Nodup
  nv : (W.map (·.2)).Nodup
  out : ∀ k m, (k, m) ∈ W → m ≠ bw
structure QAt (w : World) (p : Nat) (room turns : Int) (lv : Value) (bi bw : Nat) (L : List Ent) (W : List (Key × Nat)) : Prop where
  blk : Blk w p 61 #[.int .i64 room, .int .i64 turns, lv, eM bi, eM bw]
  row : w.ownsRow 0 63 1 lv L.length (entC L)
  ents : ∀ e ∈ L, Blk w e.b 68 e.cs
  keysR : ∀ e ∈ L, w.ownsRow 0 48 2 e.kv e.keys.length (keysC e.keys)
  ids : MapT eI eP w bi (L.map (fun e => (e.id, e.b)))
  wts : WAt w bw W (waitsL L)
  bne : bi ≠ bw
  biW : ∀ k m, (k, m) ∈ W → m ≠ bi
  idn : (L.map (·.id)).Nodup
  bn : (L.map (·.b)).Nodup
  wf : ∀ e ∈ L, wfI e.id
/-- The queue's blocks. -/
def OfQ (p : Nat) (lv : Value) (bi bw : Nat) (L : List Ent) (W : List (Key × Nat)) (i : Nat) : Prop :=
  i = p ∨ lv.ownBlock = some i ∨ i = bi ∨ i = bw ∨ (∃ e ∈ L, i = e.b ∨ e.kv.ownBlock = some i) ∨ ∃ k, (k, i) ∈ W
section
variable {w w' : World} {p bi bw : Nat} {room turns : Int} {lv : Value} {L : List Ent} {W : List (Key × Nat)} {F : Key → List (Nat × Int)} {S : Nat → Prop}
theorem WAt.but (h : WAt w bw W F) (hb : But w w' S) (h1 : ¬ S bw) (h2 : ∀ k m, (k, m) ∈ W → ¬ S m) : WAt w' bw W F :=
  ⟨h.top.but hb h1, fun k m hm => (h.inn k m hm).but hb (h2 k m hm), h.has, h.nk, h.nv, h.out⟩
theorem QAt.but (h : QAt w p room turns lv bi bw L W) (hb : But w w' S) (hS : ∀ i, OfQ p lv bi bw L W i → ¬ S i) : QAt w' p room turns lv bi bw L W :=
  ⟨h.blk.but hb (hS p (.inl rfl)), own_but h.row hb (fun b hb => hS b (.inr (.inl hb))), fun e he => (h.ents e he).but hb (hS _ (.inr (.inr (.inr (.inr (.inl ⟨e, he, .inl rfl⟩)))))),
    fun e he => own_but (h.keysR e he) hb (fun b hb => hS b (.inr (.inr (.inr (.inr (.inl ⟨e, he, .inr hb⟩)))))), h.ids.but hb (hS _ (.inr (.inr (.inl rfl)))),
    h.wts.but hb (hS _ (.inr (.inr (.inr (.inl rfl))))) (fun k m hm => hS m (.inr (.inr (.inr (.inr (.inr ⟨k, hm⟩)))))), h.bne, h.biW, h.idn, h.bn, h.wf⟩
theorem QAt.below (h : QAt w p room turns lv bi bw L W) (hb : Below w.heap.size w w') : QAt w' p room turns lv bi bw L W := h.but (But.of_below hb (fun _ => False)) (fun _ _ h => h)
theorem QAt.lt (h : QAt w p room turns lv bi bw L W) {i : Nat} (hi : OfQ p lv bi bw L W i) : i < w.heap.size := by
  rcases hi with rfl | hi | rfl | rfl | ⟨e, he, rfl | hi⟩ | ⟨k, hm⟩
  · exact h.blk.lt
  · exact own_lt h.row hi
  · exact h.ids.lt
  · exact h.wts.top.lt
  · exact (h.ents e he).lt
  · exact own_lt (h.keysR e he) hi
  · exact (h.wts.inn k i hm).lt
theorem QAt.ent_at (h : QAt w p room turns lv bi bw L W) {A : Option Addr} {c : Nat} (hv : lv = .slice A L.length c) {k : Nat} (hk : k < L.length) : ∃ ad, A = some ad ∧ w.cell? (ad.add k) = some (eP L[k].b) := by
  have hr := Reads.of_own (hv ▸ h.row)
  obtain ⟨ad, u, e, _, h1, h2⟩ := hr.at_ hk
  refine ⟨ad, e, ?_⟩
  have : (entC L)[k]? = some (eP L[k].b) := by unfold entC; rw [List.getElem?_map, List.getElem?_eq_getElem hk]; rfl
  rw [this] at h1
  rw [h2, ← h1]
/-- An entry's cells turned: the list and all else as it was. -/
theorem ent_ne (h : QAt w p room turns lv bi bw L W) {e : Ent} (he : e ∈ L) : p ≠ e.b ∧ lv.ownBlock ≠ some e.b ∧ bi ≠ e.b ∧ bw ≠ e.b ∧ (∀ k m, (k, m) ∈ W → m ≠ e.b) ∧ (∀ x ∈ L, x.kv.ownBlock ≠ some e.b) :=
  ⟨h.blk.ne_ (h.ents e he) (by decide), own_blk_ne h.row (h.ents e he) (by decide), fun q => blk_map_ne (h.ents e he) h.ids q.symm, fun q => blk_map_ne (h.ents e he) h.wts.top q.symm,
    fun k m hm q => blk_map_ne (h.ents e he) (h.wts.inn k m hm) q.symm, fun x hx => own_blk_ne (h.keysR x hx) (h.ents e he) (by decide)⟩
end
end Go.Proofs.YtmcknfpohnobdaaDoor
