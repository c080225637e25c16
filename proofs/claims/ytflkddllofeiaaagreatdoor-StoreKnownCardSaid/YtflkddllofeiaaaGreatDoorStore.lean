/- A store in memory. -/
import Derived.Test.YtflkddllofeiaaaGreatDoorQKeys
import Derived.Test.YtflkddllofeiaaaGreatDoorHashR
import Derived.Test.YtflkddllofeiaaaGreatDoorLastV
namespace Go.Proofs.YtflkddllofeiaaaGreatDoor
set_option linter.unusedSimpArgs false
set_option linter.unusedVariables false
open Go.RowKit Go.MapKept Go.ChangeMaps Go.Maps

theorem But.to_below {a b : World} {S : Nat → Prop} {B : Nat} (h : But a b S) (hS : ∀ i, S i → B ≤ i) (hB : B ≤ a.heap.size) : Below B a b :=
  ⟨h.os, h.tape, h.output, h.size, fun k hk => h.block k (by omega) (fun hs => by have := hS k hs; omega)⟩
theorem MapT.but {K V : Type} {ek : K → Value} {ev : V → Value} {w w' : World} {S : Nat → Prop} {g : Nat} {M : List (K × V)} (h : MapT ek ev w g M) (hb : But w w' S) (hg : ¬ S g) : MapT ek ev w' g M := h.of_block (hb.block g h.lt hg)
theorem own_blk_ne2 {w : World} {B : Nat} {e t : TypeId} {s n g : Nat} {v : Value} {xs : List Value} {cs : Array Value} (h : w.ownsRow B e s v n xs) (h' : Blk w g t cs) (hne : e ≠ t) : v.ownBlock ≠ some g := by
  intro hi
  rcases h.2 with h0 | ⟨g', cap, cur, rfl, _, h2, _⟩
  · rw [h0.1] at hi; cases hi
  · cases hi
    have := h2.symm.trans (show w.heap[_]? = _ from h')
    injection this with this
    injection this with _ this _
    exact hne this
theorem blk_map_ne {K V : Type} {ek : K → Value} {ev : V → Value} {w : World} {g m : Nat} {t : TypeId} {cs : Array Value} {M : List (K × V)} (h : Blk w g t cs) (hm : MapT ek ev w m M) : g ≠ m := fun e => hm.not_cells (t := t) (cs := cs) (fr := (0, 0)) (e ▸ h)
theorem own_map_ne {K V : Type} {ek : K → Value} {ev : V → Value} {w : World} {m base s n : Nat} {t : TypeId} {v : Value} {xs : List Value} {M : List (K × V)} (h : w.ownsRow base t s v n xs) (hm : MapT ek ev w m M) : v.ownBlock ≠ some m := by
  intro hi
  rcases h.2 with h0 | ⟨g, cap, cur, rfl, h1, h2, h3⟩
  · rw [h0.1] at hi; cases hi
  · cases hi
    exact hm.not_cells h2
theorem blk_ne2 {w : World} {a b : Nat} {t t' : TypeId} {cs cs' : Array Value} (h : Blk w a t cs) (h' : Blk w b t' cs') (hne : t ≠ t') : a ≠ b := by
  intro e
  subst e
  have := (show w.heap[a]? = _ from h).symm.trans (show w.heap[a]? = _ from h')
  injection this with this
  injection this with _ this _
  exact hne this

/-- A chain under a key. -/
structure Ch where
  p : Nat
  sv : Value
  L : List VerS
def Ch.of (c : Ch) (i : Nat) : Prop := OfC c.p c.sv i
structure StV where
  p : Nat
  gs : Nat
  mr : Nat
  ms : List Nat
  S : List (List (Key × Ch))
  R : List (Int × Int)
  bg : Nat
def StV.chs (s : StV) : List (Key × Ch) := s.S.flatten
def StV.n (s : StV) : Nat := s.ms.length
/-- The blocks of a store. -/
def StV.of (s : StV) (i : Nat) : Prop := i = s.p ∨ i = s.gs ∨ i = s.mr ∨ i ∈ s.ms ∨ ∃ q ∈ s.chs, q.2.of i
structure StAt (w : World) (s : StV) : Prop where
  blk : Blk w s.p 58 #[.slice (some ⟨s.gs, 0, none⟩) s.n s.n, .map (some s.mr), .int .i64 s.bg]
  row : Blk w s.gs 59 (s.ms.map eM).toArray
  n1 : 1 ≤ s.n ∧ s.n ≤ 64
  len : s.S.length = s.n
  maps : ∀ i (h : i < s.ms.length) (h' : i < s.S.length), MapT eK eP w s.ms[i] (s.S[i].map (fun q => (q.1, q.2.p)))
  msn : s.ms.Nodup
  chs : ∀ q ∈ s.chs, Chn w q.2.p q.2.sv q.2.L
  shd : ∀ i (h : i < s.S.length), ∀ q ∈ s.S[i], shardOf q.1 s.n = i
  kn : (s.chs.map (·.1)).Nodup
  apart : s.chs.Pairwise (fun a b => ∀ i, a.2.of i → ¬ b.2.of i)
  rd : MapT eI eI w s.mr s.R
  rdn : (s.R.map (·.1)).Nodup
  rdk : ∀ q ∈ s.R, wfI q.1 ∧ 1 ≤ q.1 ∧ q.1 ≤ s.bg
  mrn : s.mr ∉ s.ms
section
variable {w w' : World} {s : StV} {S : Nat → Prop}
theorem StAt.but (h : StAt w s) (hb : But w w' S) (hS : ∀ i, s.of i → ¬ S i) : StAt w' s :=
  ⟨h.blk.but hb (hS _ (.inl rfl)), h.row.but hb (hS _ (.inr (.inl rfl))), h.n1, h.len, fun i h1 h2 => (h.maps i h1 h2).but hb (hS _ (.inr (.inr (.inr (.inl (List.getElem_mem h1)))))), h.msn,
    fun q hq => (h.chs q hq).but hb (fun i hi => hS i (.inr (.inr (.inr (.inr ⟨q, hq, hi⟩))))), h.shd, h.kn, h.apart, h.rd.but hb (hS _ (.inr (.inr (.inl rfl)))), h.rdn, h.rdk, h.mrn⟩
theorem StAt.below (h : StAt w s) (hb : Below w.heap.size w w') : StAt w' s := h.but (But.of_below hb (fun _ => False)) (fun _ _ h => h)
theorem StAt.lt (h : StAt w s) {i : Nat} (hi : s.of i) : i < w.heap.size := by
  rcases hi with rfl | rfl | rfl | hi | ⟨q, hq, hi⟩
  · exact h.blk.lt
  · exact h.row.lt
  · exact h.rd.lt
  · obtain ⟨k, hk, rfl⟩ := List.getElem_of_mem hi
    exact (h.maps k hk (by rw [h.len]; exact hk)).lt
  · exact (h.chs q hq).of_lt hi
/-- The shard of a key: its place, its map. -/
def StV.sh (s : StV) (k : Key) : Nat := shardOf k s.n
theorem StAt.sh_lt (h : StAt w s) (k : Key) : s.sh k < s.ms.length := Nat.mod_lt _ h.n1.1
theorem StAt.sh_lt' (h : StAt w s) (k : Key) : s.sh k < s.S.length := by rw [h.len]; exact h.sh_lt k
theorem StAt.mem_chs (h : StAt w s) {i : Nat} (hi : i < s.S.length) {q : Key × Ch} (hq : q ∈ s.S[i]) : q ∈ s.chs := List.mem_flatten.2 ⟨_, List.getElem_mem hi, hq⟩
theorem StAt.of_chs (h : StAt w s) {q : Key × Ch} (hq : q ∈ s.chs) : ∃ hi : s.sh q.1 < s.S.length, q ∈ s.S[s.sh q.1] := by
  obtain ⟨l, hl, hq⟩ := List.mem_flatten.1 hq
  obtain ⟨i, hi, rfl⟩ := List.getElem_of_mem hl
  have := h.shd i hi q hq
  unfold StV.sh
  subst this
  exact ⟨hi, hq⟩
end
end Go.Proofs.YtflkddllofeiaaaGreatDoor
