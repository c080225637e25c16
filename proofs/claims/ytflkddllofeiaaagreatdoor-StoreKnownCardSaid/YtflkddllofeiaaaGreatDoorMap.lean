/- Maps as lists of pairs, exactly, in the order in which their keys came (no program in it). -/
import Derived.Maps.RangeWalk
import Derived.Maps.Keyed
import Derived.Maps.OwnOps
import Derived.OwnWalk
namespace Go.Proofs.YtflkddllofeiaaaGreatDoor
set_option linter.unusedSimpArgs false
set_option linter.unusedVariables false
open Go.RowKit Go.MapKept Go.ChangeMaps Go.Maps

section plain
variable {K V : Type} [DecidableEq K]
def mget (M : List (K × V)) (x : K) : Option V := (M.find? (fun p => decide (p.1 = x))).map (·.2)
def mput (M : List (K × V)) (x : K) (v : V) : List (K × V) := if (mget M x).isSome then M.map (fun p => if p.1 = x then (x, v) else p) else M ++ [(x, v)]
def mdel (M : List (K × V)) (x : K) : List (K × V) := M.filter (fun p => decide (p.1 ≠ x))
variable {M : List (K × V)} {x : K} {v : V}
theorem mget_none (h : ∀ p ∈ M, p.1 ≠ x) : mget M x = none := by
  unfold mget
  rw [List.find?_eq_none.2 (fun p hp => by simpa using h p hp)]
  rfl
theorem mget_some {a c : List (K × V)} (h : ∀ p ∈ a, p.1 ≠ x) : mget (a ++ (x, v) :: c) x = some v := by
  unfold mget
  rw [List.find?_append, List.find?_eq_none.2 (fun p hp => by simpa using h p hp)]
  simp
theorem mput_none (h : ∀ p ∈ M, p.1 ≠ x) : mput M x v = M ++ [(x, v)] := by unfold mput; rw [mget_none h]; rfl
theorem mput_some {a c : List (K × V)} {u : V} (h : ∀ p ∈ a, p.1 ≠ x) (h' : ∀ p ∈ c, p.1 ≠ x) : mput (a ++ (x, u) :: c) x v = a ++ (x, v) :: c := by
  unfold mput
  rw [mget_some h]
  have e : ∀ l : List (K × V), (∀ p ∈ l, p.1 ≠ x) → l.map (fun p => if p.1 = x then (x, v) else p) = l := fun l hl => by
    conv => rhs; rw [← List.map_id l]
    exact List.map_congr_left (fun p hp => by rw [if_neg (hl p hp)]; rfl)
  rw [if_pos (show (some u : Option V).isSome = true from rfl), List.map_append, List.map_cons, e a h, e c h', if_pos rfl]
theorem mdel_none (h : ∀ p ∈ M, p.1 ≠ x) : mdel M x = M := List.filter_eq_self.2 (fun p hp => by simpa using h p hp)
theorem mdel_some {a c : List (K × V)} (h : ∀ p ∈ a, p.1 ≠ x) (h' : ∀ p ∈ c, p.1 ≠ x) : mdel (a ++ (x, v) :: c) x = a ++ c := by
  unfold mdel
  rw [List.filter_append, List.filter_cons_of_neg (by simp), List.filter_eq_self.2 (fun p hp => by simpa using h p hp), List.filter_eq_self.2 (fun p hp => by simpa using h' p hp)]
end plain

/-- What a map's laws need of the keys: of type k in P, at a world; the keys that S lets in. -/
structure KeyE {K : Type} (P : Program) (k : TypeId) (w : World) (ek : K → Value) (S : K → Prop) : Prop where
  inj : ∀ {x y}, ek x = ek y → x = y
  check : ∀ em {x}, S x → (Instr.checkKey em 10000 k (ek x)).run P w = .ok () w
  stays : ∀ {x}, S x → (Instr.keyThatStays (ek x) (ek x)).run P w = .ok (ek x) w
  find : ∀ {x}, S x → ∀ es : List MapEntry, (∀ e ∈ es, ∃ y, S y ∧ e.key = ek y) →
    ((Instr.findKey k (ek x) es).run P w = .ok none w ∧ ∀ e ∈ es, e.key ≠ ek x) ∨ ∃ j e, (Instr.findKey k (ek x) es).run P w = .ok (some (j, e.val)) w ∧ es[j]? = some e ∧ e.key = ek x
theorem KeyE.of_keyed {K : Type} {P : Program} {k : TypeId} {w : World} {ek : K → Value} {S : K → Prop} (h : Keyed P k) (lit : K → Lit) (hl : ∀ x, S x → keyOf P k (ek x) = some (lit x)) (hi : ∀ {x y}, ek x = ek y → x = y) : KeyE P k w ek S where
  inj := hi
  check em x hx := h.check w em (hl x hx)
  stays {x} hx := h.stays w (hl x hx)
  find {x} hx es he := h.find w (hl x hx) es (fun e hm => by obtain ⟨y, hy, e1⟩ := he e hm; exact ⟨lit y, by rw [e1]; exact hl y hy⟩)

def pairOf (e : MapEntry) : Value × Value := (e.key, e.val)
/-- Block b holds the pairs M, in their order. -/
def MapT {K V : Type} (ek : K → Value) (ev : V → Value) (w : World) (b : Nat) (M : List (K × V)) : Prop :=
  ∃ es clock, w.heap[b]? = some (.map es clock) ∧ Stamped es clock ∧ es.toList.map pairOf = M.map (fun p => (ek p.1, ev p.2))

section
variable {K V : Type} {ek : K → Value} {ev : V → Value} {w w' : World} {b : Nat} {M : List (K × V)}
theorem MapT.lt (h : MapT ek ev w b M) : b < w.heap.size := by
  obtain ⟨es, clock, hb, _⟩ := h
  exact (Array.getElem?_eq_some_iff.1 hb).1
theorem MapT.of_block (h : MapT ek ev w b M) (hb : w'.heap[b]? = w.heap[b]?) : MapT ek ev w' b M := by
  obtain ⟨es, clock, h1, h2⟩ := h
  exact ⟨es, clock, hb.trans h1, h2⟩
theorem MapT.below (h : MapT ek ev w b M) (hb : Below w.heap.size w w') : MapT ek ev w' b M := h.of_block (hb.block b h.lt)
theorem MapT.below' {B : Nat} (h : MapT ek ev w b M) (hb : Below B w w') (hB : b < B) : MapT ek ev w' b M := h.of_block (hb.block b hB)
theorem MapT.grown {row : Option Nat} (h : MapT ek ev w b M) (hg : w.grownBy w' row) (hr : some b ≠ row) : MapT ek ev w' b M := h.of_block (hg.block b h.lt hr)
theorem MapT.new (w : World) (ek : K → Value) (ev : V → Value) : MapT ek ev (w.alloc (.map #[] 0)) w.heap.size ([] : List (K × V)) :=
  ⟨#[], 0, (MapKept.heap_alloc w _).1, stamped_empty 0, rfl⟩
theorem MapT.not_cells {t : TypeId} {cs : Array Value} {fr : Nat × Nat} (h : MapT ek ev w b M) : w.heap[b]? ≠ some (.cells cs t fr) := by
  obtain ⟨es, clock, hb, _⟩ := h
  rw [hb]; simp

theorem split_at {α : Type} {l : List α} {j : Nat} {x : α} (h : l[j]? = some x) : l = l.take j ++ x :: l.drop (j + 1) := by
  obtain ⟨hj, rfl⟩ := List.getElem?_eq_some_iff.1 h
  rw [List.getElem_cons_drop, List.take_append_drop]
theorem map_split {α β γ : Type} {f : α → γ} {g : β → γ} {l : List α} {m : List β} (h : l.map f = m.map g) {j : Nat} {x : α} (hx : l[j]? = some x) :
    ∃ y, m[j]? = some y ∧ f x = g y ∧ (l.take j).map f = (m.take j).map g ∧ (l.drop (j + 1)).map f = (m.drop (j + 1)).map g := by
  have h1 : (m.map g)[j]? = some (f x) := by rw [← h, List.getElem?_map, hx]; rfl
  rw [List.getElem?_map] at h1
  obtain ⟨y, hy, e⟩ := Option.map_eq_some_iff.1 h1
  refine ⟨y, hy, e.symm, ?_, ?_⟩
  · rw [List.map_take, List.map_take, h]
  · rw [List.map_drop, List.map_drop, h]
/-- Where a key lies. -/
theorem keys_of {S : K → Prop} {es : Array MapEntry} (hm : es.toList.map pairOf = M.map (fun p => (ek p.1, ev p.2))) (hS : ∀ p ∈ M, S p.1) : ∀ e ∈ es.toList, ∃ y, S y ∧ e.key = ek y := by
  intro e he
  have h1 : pairOf e ∈ M.map (fun p => (ek p.1, ev p.2)) := hm ▸ List.mem_map.2 ⟨e, he, rfl⟩
  obtain ⟨p, hp, e1⟩ := List.mem_map.1 h1
  exact ⟨p.1, hS p hp, by have := congrArg Prod.fst e1; exact this.symm⟩
theorem key_apart {es : List MapEntry} (h : es.Pairwise (fun x y => x.key ≠ y.key)) {j : Nat} {e : MapEntry} (he : es[j]? = some e) : (∀ x ∈ es.take j, x.key ≠ e.key) ∧ ∀ x ∈ es.drop (j + 1), x.key ≠ e.key := by
  rw [split_at he, List.pairwise_append] at h
  obtain ⟨_, h2, h3⟩ := h
  exact ⟨fun x hx => h3 x hx e (by simp), fun x hx => ((List.pairwise_cons.1 h2).1 x hx).symm⟩
theorem apart_typed {S : K → Prop} {P : Program} {k : TypeId} (E : KeyE P k w ek S) {es : List MapEntry} {M' : List (K × V)} (hm : es.map pairOf = M'.map (fun p => (ek p.1, ev p.2))) {x : K} (h : ∀ e ∈ es, e.key ≠ ek x) : ∀ p ∈ M', p.1 ≠ x := by
  intro p hp e1
  have h1 : (ek p.1, ev p.2) ∈ es.map pairOf := hm ▸ List.mem_map.2 ⟨p, hp, rfl⟩
  obtain ⟨e, he, e2⟩ := List.mem_map.1 h1
  exact h e he (by have := congrArg Prod.fst e2; rw [← e1]; exact this)

/-- What the search finds, in the pairs' words. -/
theorem MapT.found {S : K → Prop} {P : Program} {k : TypeId} {es : Array MapEntry} {clock : Nat} (E : KeyE P k w ek S) (hst : Stamped es clock) (hm : es.toList.map pairOf = M.map (fun p => (ek p.1, ev p.2))) (hS : ∀ p ∈ M, S p.1) {x : K} (hx : S x) :
    ((Instr.findKey k (ek x) es.toList).run P w = .ok none w ∧ (∀ e ∈ es.toList, e.key ≠ ek x) ∧ ∀ p ∈ M, p.1 ≠ x) ∨
    ∃ j e v, (Instr.findKey k (ek x) es.toList).run P w = .ok (some (j, ev v)) w ∧ es.toList[j]? = some e ∧ e.key = ek x ∧ e.val = ev v ∧ M = M.take j ++ (x, v) :: M.drop (j + 1) ∧ (∀ p ∈ M.take j, p.1 ≠ x) ∧ (∀ p ∈ M.drop (j + 1), p.1 ≠ x) ∧
      (es.toList.take j).map pairOf = (M.take j).map (fun p => (ek p.1, ev p.2)) ∧ (es.toList.drop (j + 1)).map pairOf = (M.drop (j + 1)).map (fun p => (ek p.1, ev p.2)) := by
  rcases E.find hx es.toList (keys_of hm hS) with ⟨h1, h2⟩ | ⟨j, e, h1, h2, h3⟩
  · exact .inl ⟨h1, h2, apart_typed E hm h2⟩
  · obtain ⟨⟨y, v⟩, hy, e1, t1, t2⟩ := map_split hm h2
    have e2 : e.key = ek y := congrArg Prod.fst e1
    have e3 : e.val = ev v := congrArg Prod.snd e1
    obtain rfl : x = y := E.inj (h3.symm.trans e2)
    obtain ⟨a1, a2⟩ := key_apart ((stamped_iff es clock).1 hst).2.2 h2
    exact .inr ⟨j, e, v, by rw [h1, e3], h2, h3, e3, split_at hy, apart_typed E t1 (fun q hq => by rw [← h3]; exact a1 q hq), apart_typed E t2 (fun q hq => by rw [← h3]; exact a2 q hq), t1, t2⟩

section
variable [DecidableEq K] {S : K → Prop} {P : Program} {k e t : TypeId}
theorem MapT.look (h : MapT ek ev w b M) (E : KeyE P k w ek S) (hS : ∀ p ∈ M, S p.1) {x : K} (hx : S x) (ht : P.underlying t = some (.map k e)) {z : Value} (hz : (zeroValue e).run P w = .ok z w) (c : Bool) :
    (Instr.lookup t (.map (some b)) (ek x) c).run P w = .ok (if c then .tuple #[((mget M x).map ev).getD z, .bool (mget M x).isSome] else ((mget M x).map ev).getD z) w := by
  obtain ⟨es, clock, hb, hst, hm⟩ := h
  rcases MapT.found E hst hm hS hx with ⟨h1, h2, h3⟩ | ⟨j, e0, v, h1, h2, h3, h4, h5, h6, h7, _⟩
  · rw [mget_none h3]
    simp [Instr.lookup, run_underlying ht, MapKept.run_getObj_map hb, E.check _ hx, h1, hz, Result.andThen]
  · have hg : mget M x = some v := by rw [h5]; exact mget_some h6
    rw [hg]
    simp [Instr.lookup, run_underlying ht, MapKept.run_getObj_map hb, E.check _ hx, h1, Result.andThen]
theorem MapT.put (h : MapT ek ev w b M) (E : KeyE P k w ek S) (hS : ∀ p ∈ M, S p.1) {x : K} (hx : S x) (ht : P.underlying t = some (.map k e)) (v : V) :
    ∃ w', (Instr.mapUpdate t (.map (some b)) (ek x) (ev v)).run P w = .ok () w' ∧ MapT ek ev w' b (mput M x v) ∧ w.grownBy w' (some b) ∧ w'.heap.size = w.heap.size := by
  have hlt := h.lt
  obtain ⟨es, clock, hb, hst, hm⟩ := h
  rcases MapT.found E hst hm hS hx with ⟨h1, h2, h3⟩ | ⟨j, e0, u, h1, h2, h3, h4, h5, h6, h7, h8, h9⟩
  · refine ⟨setBlock w b (.map (es.push ⟨ek x, ev v, clock⟩) (clock + 1)), ?_, ⟨_, _, heap_setBlock_same hb _, stamped_push hst h2, ?_⟩, ⟨rfl, rfl, rfl, by simp [setBlock], fun i _ hi => heap_setBlock_other hb _ (fun e => hi (by rw [e]))⟩, by simp [setBlock]⟩
    · simp [Instr.mapUpdate, run_underlying ht, MapKept.run_getObj_map hb, E.check _ hx, h1, MapKept.run_setObj_map _ hb, Result.andThen, setBlock]
    · rw [mput_none h3, Array.toList_push, List.map_append, List.map_append, hm]
      rfl
  · have hj : es[j]? = some e0 := by simpa using h2
    have hst' : Stamped (es.modify j fun e => { e with key := ek x, val := ev v }) clock := stamped_modify hst j _ (fun _ _ => rfl) (fun q _ hq => by rw [hj] at hq; cases hq; exact h3.symm)
    refine ⟨setBlock w b (.map (es.modify j fun e => { e with key := ek x, val := ev v }) clock), ?_, ⟨_, _, heap_setBlock_same hb _, hst', ?_⟩, ⟨rfl, rfl, rfl, by simp [setBlock], fun i _ hi => heap_setBlock_other hb _ (fun e => hi (by rw [e]))⟩, by simp [setBlock]⟩
    · simp [Instr.mapUpdate, run_underlying ht, MapKept.run_getObj_map hb, E.check _ hx, h1, hj, h3, E.stays hx, MapKept.run_setObj_map _ hb, Result.andThen, setBlock]
    · rw [h5, mput_some h6 h7]
      have e1 : (es.modify j fun e => { e with key := ek x, val := ev v }).toList = es.toList.take j ++ { e0 with key := ek x, val := ev v } :: es.toList.drop (j + 1) := by
        have hjl : j < es.size := (Array.getElem?_eq_some_iff.1 hj).1
        rw [Array.toList_modify]
        rw [List.modify_eq_take_cons_drop (by simpa using hjl)]
        have h0 : es.toList[j]'(by simpa using hjl) = e0 := by
          have := h2
          rw [List.getElem?_eq_getElem (by simpa using hjl)] at this
          exact Option.some.inj this
        rw [h0]
      rw [e1, List.map_append, List.map_cons, h8, h9, List.map_append, List.map_cons]
      rfl
theorem MapT.del (h : MapT ek ev w b M) (E : KeyE P k w ek S) (hS : ∀ p ∈ M, S p.1) {x : K} (hx : S x) (ht : P.underlying t = some (.map k e)) (ty : TypeId) :
    ∃ w', (Builtin.delete_ #[t, k] ty #[.map (some b), ek x]).run P w = .ok (.tuple #[]) w' ∧ MapT ek ev w' b (mdel M x) ∧ w.grownBy w' (some b) ∧ w'.heap.size = w.heap.size := by
  obtain ⟨es, clock, hb, hst, hm⟩ := h
  rcases MapT.found E hst hm hS hx with ⟨h1, h2, h3⟩ | ⟨j, e0, u, h1, h2, h3, h4, h5, h6, h7, h8, h9⟩
  · refine ⟨setBlock w b (.map es clock), ?_, ⟨_, _, heap_setBlock_same hb _, hst, ?_⟩, ⟨rfl, rfl, rfl, by simp [setBlock], fun i _ hi => heap_setBlock_other hb _ (fun e => hi (by rw [e]))⟩, by simp [setBlock]⟩
    · simp [Builtin.delete_, run_underlying ht, MapKept.run_getObj_map hb, E.check _ hx, h1, MapKept.run_setObj_map _ hb, Result.andThen, setBlock]
    · rw [mdel_none h3, hm]
  · have hjl : j < es.size := by have := (List.getElem?_eq_some_iff.1 h2).1; simpa using this
    refine ⟨setBlock w b (.map (es.eraseIdxIfInBounds j) clock), ?_, ⟨_, _, heap_setBlock_same hb _, stamped_erase hst j, ?_⟩, ⟨rfl, rfl, rfl, by simp [setBlock], fun i _ hi => heap_setBlock_other hb _ (fun e => hi (by rw [e]))⟩, by simp [setBlock]⟩
    · simp [Builtin.delete_, run_underlying ht, MapKept.run_getObj_map hb, E.check _ hx, h1, MapKept.run_setObj_map _ hb, Result.andThen, setBlock]
    · have e1 : (es.eraseIdxIfInBounds j).toList = es.toList.take j ++ es.toList.drop (j + 1) := by
        unfold Array.eraseIdxIfInBounds
        rw [dif_pos hjl, Array.toList_eraseIdx, List.eraseIdx_eq_take_drop_succ]
      rw [e1, h5, mdel_some h6 h7, List.map_append, h8, h9, List.map_append]
omit [DecidableEq K] in
theorem MapT.len (h : MapT ek ev w b M) (ht : P.underlying t = some (.map k e)) (ty : TypeId) : (Builtin.len_ #[t] ty #[.map (some b)]).run P w = .ok (.int .i64 M.length) w := by
  obtain ⟨es, clock, hb, hst, hm⟩ := h
  have hl : es.size = M.length := by have := congrArg List.length hm; simpa using this
  simp [Builtin.len_, run_underlying ht, MapKept.run_getObj_map hb, Result.andThen, hl]
  rfl
end
end
end Go.Proofs.YtflkddllofeiaaaGreatDoor
