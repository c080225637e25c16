/- QueueServes: plain words, and two queues in one memory. -/
import Derived.Test.YtmcknfpohnobdaaDoorQ8
import Derived.Test.YtmcknfpohnobdaaDoorOpenD
namespace Go.Proofs.YtmcknfpohnobdaaDoor
set_option linter.unusedSimpArgs false
set_option linter.unusedVariables false
open Go.RowKit Go.MapKept Go.ChangeMaps Go.Maps

/-! ### plain -/
def mkR (P : Ent → Bool) (L : List Ent) : List Ent := L.map (fun e => { e with rdy := P e })
theorem mkR_cons (P : Ent → Bool) (x : Ent) (L : List Ent) : mkR P (x :: L) = { x with rdy := P x } :: mkR P L := rfl
theorem meets_app (a b c : List Key) : meets a (b ++ c) = (meets a b || meets a c) := by
  unfold meets
  rw [Bool.eq_iff_iff]
  simp only [List.any_eq_true, decide_eq_true_eq, List.mem_append, Bool.or_eq_true]
  constructor
  · rintro ⟨x, hx, h | h⟩
    · exact .inl ⟨x, hx, h⟩
    · exact .inr ⟨x, hx, h⟩
  · rintro (⟨x, hx, h⟩ | ⟨x, hx, h⟩)
    · exact ⟨x, hx, .inl h⟩
    · exact ⟨x, hx, .inr h⟩
theorem meets_turn (a b : List Key) : meets (turnL a) (turnL b) = meets a b := by
  unfold meets
  rw [Bool.eq_iff_iff]
  simp only [List.any_eq_true, decide_eq_true_eq, turnL_mem]
theorem filter_or {α : Type} (P Q : α → Bool) (l : List α) : (l.filter (fun e => Q e && !P e)).length + (l.filter P).length = (l.filter (fun e => P e || Q e)).length := by
  induction l with
  | nil => rfl
  | cons x l ih =>
    cases hp : P x <;> cases hq : Q x <;> simp [List.filter_cons, hp, hq] <;> omega
theorem touch_mk {L : List Ent} {P : Ent → Bool} (hn : ∀ e ∈ L, e.tkn = false) (t : List Key) :
    turnBy (mkR P L) (fun e => meets e.keys t) = mkR (fun e => P e || meets e.keys t) L ∧ freshBy (mkR P L) (fun e => meets e.keys t) + (L.filter P).length = (L.filter (fun e => P e || meets e.keys t)).length := by
  constructor
  · unfold turnBy mkR
    rw [List.map_map]
    refine List.map_congr_left (fun e he => ?_)
    have ht := hn e he
    simp only [Function.comp]
    cases hm : meets e.keys t
    · simp
    · simp [Ent.hit, ht]
  · rw [← filter_or]
    congr 1
    unfold freshBy mkR
    rw [List.filter_map, List.length_map]
    congr 1
    refine List.filter_congr (fun e he => ?_)
    have ht := hn e he
    simp [Function.comp, ht]
theorem mk_false {L : List Ent} (h : ∀ e ∈ L, e.rdy = false) : mkR (fun _ => false) L = L := by
  unfold mkR
  conv => rhs; rw [← List.map_id L]
  refine List.map_congr_left (fun e he => ?_)
  have := h e he
  cases e
  simp_all
theorem mkR_core (P : Ent → Bool) (L : List Ent) : (mkR P L).map Ent.core = L.map Ent.core := by
  unfold mkR
  rw [List.map_map]
  exact List.map_congr_left (fun e _ => rfl)
/-- Where a queue stands as its entries are taken. -/
def TakenTo (P : Ent → Bool) (L S : List Ent) (i : Nat) : Prop := ∃ pre, S = pre ++ mkR P (L.drop i) ∧ pre.length = i ∧ ∀ e ∈ pre, e.rdy = false
theorem taken_start (P : Ent → Bool) (L : List Ent) : TakenTo P L (mkR P L) 0 := ⟨[], rfl, rfl, fun e he => by simp at he⟩
theorem drop_at {L : List Ent} {i : Nat} (hi : i < L.length) : L.drop i = L[i] :: L.drop (i + 1) := List.drop_eq_getElem_cons hi
theorem taken_skip {P : Ent → Bool} {L S : List Ent} {i : Nat} (hi : i < L.length) (h : TakenTo P L S i) (hP : P L[i] = false) : TakenTo P L S (i + 1) := by
  obtain ⟨pre, rfl, hl, hr⟩ := h
  refine ⟨pre ++ [{ L[i] with rdy := P L[i] }], ?_, by simp [hl], fun e he => ?_⟩
  · rw [drop_at hi, mkR_cons, List.append_assoc]
    rfl
  · rcases List.mem_append.1 he with he | he
    · exact hr e he
    · rw [List.mem_singleton.1 he]; exact hP
theorem taken_take {P : Ent → Bool} {L S S' : List Ent} {i : Nat} {n : Int} {ok : Bool} (hi : i < L.length) (h : TakenTo P L S i) (hP : P L[i] = true) (hT : TakeQ S S' n ok) : ok = true ∧ n = L[i].id ∧ TakenTo P L S' (i + 1) := by
  obtain ⟨pre, rfl, hl, hr⟩ := h
  rw [drop_at hi, mkR_cons, hP] at hT
  obtain ⟨y, hy⟩ : ∃ y : Ent, { L[i] with rdy := true } = y := ⟨_, rfl⟩
  have hyr : y.rdy = true := by rw [← hy]
  have hyi : y.id = L[i].id := by rw [← hy]
  rw [hy] at hT
  have hat : ∀ (hk : i < (pre ++ y :: mkR P (L.drop (i + 1))).length), (pre ++ y :: mkR P (L.drop (i + 1)))[i]'hk = y := fun hk => by
    rw [List.getElem_append_right (by omega)]; simp [hl]
  rcases hT with ⟨_, _, _, hno⟩ | ⟨k, hk, h1, h2, h3, h4, h5⟩
  · have := hno y (List.mem_append_right pre (List.mem_cons_self ..))
    rw [hyr] at this; cases this
  · have hki : k = i := by
      rcases Nat.lt_trichotomy k i with hlt | he | hgt
      · rw [List.getElem_append_left (by omega)] at h2
        have := hr _ (List.getElem_mem (by omega : k < pre.length))
        rw [this] at h2; cases h2
      · exact he
      · have := h3 i hgt
        rw [hat, hyr] at this
        cases this
    subst hki
    refine ⟨h1, ?_, pre ++ [{ y with rdy := false, tkn := true, tch := false }], ?_, by simp [hl], fun e he => ?_⟩
    · rw [h4, hat, hyi]
    · rw [h5, hat]
      rw [List.set_append_right _ _ (by omega)]
      simp [hl]
    · rcases List.mem_append.1 he with he | he
      · exact hr e he
      · rw [List.mem_singleton.1 he]
theorem taken_end {P : Ent → Bool} {L S S' : List Ent} {n : Int} {ok : Bool} (h : TakenTo P L S L.length) (hT : TakeQ S S' n ok) : ok = false := by
  obtain ⟨pre, rfl, hl, hr⟩ := h
  rw [List.drop_length] at hT
  rcases hT with ⟨h1, _⟩ | ⟨k, hk, h1, h2, _⟩
  · exact h1
  · have hk2 : k < pre.length := by simpa [mkR] using hk
    rw [List.getElem_append_left hk2] at h2
    rw [hr _ (List.getElem_mem hk2)] at h2
    cases h2

/-! ### two queues -/
structure QV where
  p : Nat
  bi : Nat
  bw : Nat
  room : Int
  turns : Int
  lv : Value
  L : List Ent
  W : List (Key × Nat)
def QV.at_ (q : QV) (w : World) : Prop := QAt w q.p q.room q.turns q.lv q.bi q.bw q.L q.W
def QV.of (q : QV) (i : Nat) : Prop := OfQ q.p q.lv q.bi q.bw q.L q.W i
structure QQ (w0 w : World) (a b : QV) (S : Nat → Prop) : Prop where
  qa : a.at_ w
  qb : b.at_ w
  dis : ∀ i, a.of i → ¬ b.of i
  la : ∀ i, a.of i → w0.heap.size ≤ i
  lb : ∀ i, b.of i → w0.heap.size ≤ i
  own : ∀ i, S i → i < w.heap.size ∧ ¬ a.of i ∧ ¬ b.of i
  bel : Below w0.heap.size w0 w
section
variable {w0 w w' : World} {a b a' b' : QV} {S S' : Nat → Prop} {v : Value}
theorem QQ.symm (h : QQ w0 w a b S) : QQ w0 w b a S := ⟨h.qb, h.qa, fun i hb ha => h.dis i ha hb, h.lb, h.la, fun i hi => ⟨(h.own i hi).1, (h.own i hi).2.2, (h.own i hi).2.1⟩, h.bel⟩
theorem QQ.left (h : QQ w0 w a b S) (hb : But w w' a.of) (ha : a'.at_ w') (hn : ∀ i, a'.of i → a.of i ∨ w.heap.size ≤ i) : QQ w0 w' a' b S := by
  refine ⟨ha, QAt.but h.qb hb (fun i hi ha => h.dis i ha hi), fun i hi hbi => ?_, fun i hi => ?_, h.lb, fun i hi => ⟨Nat.lt_of_lt_of_le (h.own i hi).1 hb.size, fun hai => ?_, (h.own i hi).2.2⟩, h.bel.trans (hb.to_below h.la h.bel.size)⟩
  · rcases hn i hi with h1 | h1
    · exact h.dis i h1 hbi
    · have := QAt.lt h.qb hbi; omega
  · rcases hn i hi with h1 | h1
    · exact h.la i h1
    · exact Nat.le_trans h.bel.size h1
  · rcases hn i hai with h1 | h1
    · exact (h.own i hi).2.1 h1
    · have := (h.own i hi).1; omega
theorem QQ.right (h : QQ w0 w a b S) (hb : But w w' b.of) (hB : b'.at_ w') (hn : ∀ i, b'.of i → b.of i ∨ w.heap.size ≤ i) : QQ w0 w' a b' S := (h.symm.left hb hB hn).symm
theorem QQ.below (h : QQ w0 w a b S) (hb : Below w.heap.size w w') : QQ w0 w' a b S :=
  ⟨QAt.below h.qa hb, QAt.below h.qb hb, h.dis, h.la, h.lb, fun i hi => ⟨Nat.lt_of_lt_of_le (h.own i hi).1 hb.size, (h.own i hi).2⟩, below_after h.bel hb⟩
theorem QQ.grow (h : QQ w0 w a b S) (hb : But w w' (fun i => v.ownBlock = some i)) (hv : ∀ i, v.ownBlock = some i → S i ∧ w0.heap.size ≤ i) (hS : ∀ i, S' i → S i ∨ (w.heap.size ≤ i ∧ i < w'.heap.size)) : QQ w0 w' a b S' := by
  refine ⟨QAt.but h.qa hb (fun i hi e => (h.own i (hv i e).1).2.1 hi), QAt.but h.qb hb (fun i hi e => (h.own i (hv i e).1).2.2 hi), h.dis, h.la, h.lb, fun i hi => ?_, h.bel.trans (hb.to_below (fun i e => (hv i e).2) h.bel.size)⟩
  rcases hS i hi with h1 | ⟨h1, h2⟩
  · exact ⟨Nat.lt_of_lt_of_le (h.own i h1).1 hb.size, (h.own i h1).2⟩
  · exact ⟨h2, fun ha => by have := QAt.lt h.qa ha; omega, fun hb' => by have := QAt.lt h.qb hb'; omega⟩
theorem QQ.reads {s n : Nat} {A : Option Addr} {xs : List Value} (h : QQ w0 w a b S) (hr : Reads w0 w0.heap.size s A n xs) : Reads w w.heap.size s A n xs := (hr.below h.bel).more h.bel.size
/-- The law's own rows: all, ids, sets. -/
def Own3 (a b c : Value) (i : Nat) : Prop := a.ownBlock = some i ∨ b.ownBlock = some i ∨ c.ownBlock = some i
structure Rows3 (w0 w : World) (av iv sv : Value) (all : List Key) (ids : List Int) (sets : List TQ) : Prop where
  a : w.ownsRow w0.heap.size 48 2 av all.length (keysC all)
  i : w.ownsRow w0.heap.size 3 1 iv ids.length (intsC ids)
  s : w.ownsRow w0.heap.size 31 1 sv sets.length (sets.flatMap TQ.cs)
theorem Rows3.but {av iv sv : Value} {all : List Key} {ids : List Int} {sets : List TQ} (h : Rows3 w0 w av iv sv all ids sets) (hb : But w w' S) (hS : ∀ i, Own3 av iv sv i → ¬ S i) : Rows3 w0 w' av iv sv all ids sets :=
  ⟨own_but h.a hb (fun b hb' => hS b (.inl hb')), own_but h.i hb (fun b hb' => hS b (.inr (.inl hb'))), own_but h.s hb (fun b hb' => hS b (.inr (.inr hb')))⟩
theorem Rows3.below {av iv sv : Value} {all : List Key} {ids : List Int} {sets : List TQ} (h : Rows3 w0 w av iv sv all ids sets) (hb : Below w.heap.size w w') : Rows3 w0 w' av iv sv all ids sets := h.but (But.of_below hb (fun _ => False)) (fun _ _ h => h)
end
end Go.Proofs.YtmcknfpohnobdaaDoor
