/- Slices opened as lists, elements that themselves lead into memory. -/
import Derived.Test.YtflkddllofeiaaaGreatDoorOpenL
namespace Go.Proofs.YtflkddllofeiaaaGreatDoor
set_option linter.unusedSimpArgs false
open Go.RowKit Go.ChangeShapes Go.WideShapes Go.Deep Go.Joins
set_option linter.unusedVariables false
section
variable {H : Type} {enc : TypeId × Value → H} {P : Program} {w : World} {base : Nat} {held : Bool}
theorem weights_all {e : TypeId} {l : List (DataW H)} {d : DataW H} (h : (DataW.weightsAll P e l).all (· ≤ reachBytes) = true) (hd : d ∈ l) : (d.weights P e).all (· ≤ reachBytes) = true := by
  induction l with
  | nil => cases hd
  | cons x l ih =>
    rw [DataW.weightsAll, List.all_append, Bool.and_eq_true] at h
    rcases List.mem_cons.1 hd with rfl | hd
    · exact h.1
    · exact ih h.2 hd
theorem weights_slice2 {t e : TypeId} (hu : P.underlying t = some (.slice e)) {E S : List (DataW H)} (h : ((DataW.slice E S).weights P t).all (· ≤ reachBytes) = true) : (DataW.weightsAll P e E).all (· ≤ reachBytes) = true := by
  simp only [DataW.weights, hu, List.all_cons, Bool.and_eq_true, List.all_append] at h
  exact h.2.1

/-- A slice as a list; Q: what the reading of an element tells of it. -/
theorem open_deep {α : Type} {en : α → List Value} {s : Nat} {Q : α → Prop} (hs : ∀ x, (en x).length = s) {t e : TypeId} {fuel : Nat} {v : Value} {x : DataW H × List MemPlace} (ht : P.underlying t = some (.slice e)) (hC : P.cellsOf e = s) (hs0 : 0 < s)
    (hel : ∀ (n : Nat) (cs : List Value) (y : DataW H × List MemPlace), cs.length = s → DataW.trod enc P w base (fun _ => true) held n e cs = some y → (y.1.weights P e).all (· ≤ reachBytes) = true → ∃ x : α, en x = cs ∧ Q x)
    (h : DataW.trod enc P w base (fun _ => true) held fuel t [v] = some x) (hw : (x.1.weights P t).all (· ≤ reachBytes) = true) :
    ∃ (xs : List α) (A : Option Addr) (c : Nat), v = .slice A xs.length c ∧ (A = none → xs = [] ∧ c = 0) ∧ Reads w w.heap.size s A xs.length (xs.flatMap en) ∧ (∀ x ∈ xs, Q x) ∧ xs.length * P.bytesOf e ≤ 140737488351232 := by
  rcases open_slice ht h with ⟨hv, _⟩ | ⟨a, len, cap, m, n, D, Pl, hv, _, hl, hm, hmm, hx, hf⟩
  · simp only [List.cons.injEq, and_true] at hv
    subst hv
    exact ⟨[], none, 0, rfl, fun _ => ⟨rfl, rfl⟩, Reads.none_, fun y hy => (by simp at hy), by simp⟩
  · simp only [List.cons.injEq, and_true] at hv
    subst hv
    rw [if_pos rfl] at hmm
    subst hmm
    subst hx
    have hwA := weights_slice2 ht hw
    have hwS := weights_slice ht hw
    simp only [List.length_map, List.length_range] at hwS
    obtain ⟨xs, hxl, hxs⟩ := list_of (p := fun i x => (∀ j, j < s → w.cell? (a.add (i * s + j)) = (en x)[j]?) ∧ Q x) (n := len) fun i hi => by
      obtain ⟨cs, h1, h2⟩ := hf i (by omega)
      rw [hC] at h1
      obtain ⟨_, hcl, hcell⟩ := World.cells?_some h1
      obtain ⟨x, rfl, hq⟩ := hel n cs (D i, Pl i) hcl h2 (weights_all hwA (List.mem_map.2 ⟨i, List.mem_range.2 hi, rfl⟩))
      refine ⟨x, fun j hj => ?_, hq⟩
      rw [← hcell j hj, Addr.add_add]
    subst hxl
    refine ⟨xs, some a, m, rfl, fun h0 => (by cases h0), ⟨flat_length hs xs, fun h0 => ⟨a, rfl, ?_, fun q u hq => ?_⟩⟩, fun x hx => ?_, Nat.le_trans (Nat.mul_le_mul_right _ (by omega)) hwS⟩
    · have h1 := (hxs 0 h0).1 0 hs0
      rw [List.getElem?_eq_getElem (by rw [hs]; exact hs0)] at h1
      have := World.block_lt_of_cell? w _ h1
      rwa [block_of_add] at this
    · have hlt := (List.getElem?_eq_some_iff.1 hq).1
      rw [flat_length hs] at hlt
      have hk : q / s < xs.length := Nat.div_lt_of_lt_mul (by rwa [Nat.mul_comm] at hlt)
      have hq2 : q / s * s + q % s = q := by rw [Nat.mul_comm]; exact Nat.div_add_mod q s
      have h1 := (hxs (q / s) hk).1 (q % s) (Nat.mod_lt _ hs0)
      have h3 := flat_get hs xs (q / s) (q % s) (Nat.mod_lt _ hs0) hk
      rw [hq2] at h1 h3
      rw [h1, ← h3, hq]
    · obtain ⟨i, hi, rfl⟩ := List.getElem_of_mem hx
      exact (hxs i hi).2
theorem key_deep {e ti : TypeId} {fs : Array Field} (hu : P.underlying e = some (.struct fs)) (ho : fs.toList.map (fun f => (f.offset, f.type)) = [(0, ti), (1, ti)]) (hi : P.underlying ti = some (.int .i64)) (hci : P.cellsOf ti = 1)
    (n : Nat) (cs : List Value) (y : DataW H × List MemPlace) (hl : cs.length = 2) (h : DataW.trod enc P w base (fun _ => true) held n e cs = some y) : ∃ x : Key, x.cs = cs ∧ True := by
  obtain ⟨l⟩ := fs
  have hlen : l.length = 2 := by simpa using congrArg List.length ho
  match l, hlen, ho with
  | [f0, f1], _, ho =>
    simp only [List.map_cons, List.map_nil, List.cons.injEq, and_true, Prod.mk.injEq] at ho
    obtain ⟨⟨o0, e0⟩, ⟨o1, e1⟩⟩ := ho
    obtain ⟨ys, m, _, _, _, hyl, hf⟩ := DataW.trod_struct hu h
    match cs, hl with
    | [c0, c1], _ =>
      have g0 := hf 0 f0 rfl
      have g1 := hf 1 f1 rfl
      rw [o0, e0, hci] at g0
      rw [o1, e1, hci] at g1
      simp only [List.drop_zero, List.drop_succ_cons, List.take_succ_cons, List.take_zero] at g0 g1
      match ys, hyl with
      | [y0, y1], _ =>
        obtain ⟨a0, q0, _, _⟩ := DataW.trod_int hi g0
        obtain ⟨a1, q1, _, _⟩ := DataW.trod_int hi g1
        simp only [List.cons.injEq, and_true] at q0 q1
        exact ⟨⟨a0, a1⟩, by rw [q0, q1]; rfl, trivial⟩

/-- A row of the script; a list of keys. -/
structure OpQ where
  on : Int
  kind : Int
  id : Int
  A : Option Addr
  keys : List Key
  c : Nat
def OpQ.cs (x : OpQ) : List Value := [.int .i64 x.on, .int .i64 x.kind, .int .i64 x.id, .slice x.A x.keys.length x.c]
theorem OpQ.len (x : OpQ) : x.cs.length = 4 := rfl
structure TQ where
  A : Option Addr
  keys : List Key
  c : Nat
def TQ.cs (x : TQ) : List Value := [.slice x.A x.keys.length x.c]
theorem TQ.len (x : TQ) : x.cs.length = 1 := rfl
/-- A list of keys that lies in memory. -/
def KeysIn (w : World) (B : Nat) (A : Option Addr) (c : Nat) (keys : List Key) : Prop := Reads w B 2 A keys.length (keysC keys) ∧ (A = none → keys = [] ∧ c = 0) ∧ keys.length ≤ 8796093021952
theorem tq_deep {e te ti : TypeId} {fs : Array Field} (hte : P.underlying te = some (.slice e)) (hu : P.underlying e = some (.struct fs)) (ho : fs.toList.map (fun f => (f.offset, f.type)) = [(0, ti), (1, ti)]) (hi : P.underlying ti = some (.int .i64)) (hci : P.cellsOf ti = 1) (hce : P.cellsOf e = 2) (hby : P.bytesOf e = 16)
    (n : Nat) (v : Value) (y : DataW H × List MemPlace) (h : DataW.trod enc P w base (fun _ => true) held n te [v] = some y) (hw : (y.1.weights P te).all (· ≤ reachBytes) = true) : ∃ x : TQ, x.cs = [v] ∧ KeysIn w w.heap.size x.A x.c x.keys := by
  obtain ⟨xs, A, c, rfl, hA, hr, _, hb⟩ := open_deep Key.len hte hce (by decide) (fun n cs y hl h _ => key_deep hu ho hi hci n cs y hl h) h hw
  rw [hby] at hb
  exact ⟨⟨A, xs, c⟩, rfl, hr, hA, by simp only; omega⟩
theorem tq_el {e te ti : TypeId} {fs : Array Field} (hte : P.underlying te = some (.slice e)) (hu : P.underlying e = some (.struct fs)) (ho : fs.toList.map (fun f => (f.offset, f.type)) = [(0, ti), (1, ti)]) (hi : P.underlying ti = some (.int .i64)) (hci : P.cellsOf ti = 1) (hce : P.cellsOf e = 2) (hby : P.bytesOf e = 16)
    (n : Nat) (cs : List Value) (y : DataW H × List MemPlace) (hl : cs.length = 1) (h : DataW.trod enc P w base (fun _ => true) held n te cs = some y) (hw : (y.1.weights P te).all (· ≤ reachBytes) = true) : ∃ x : TQ, x.cs = cs ∧ KeysIn w w.heap.size x.A x.c x.keys := by
  match cs, hl with
  | [v], _ => exact tq_deep hte hu ho hi hci hce hby n v y h hw
theorem opq_el {o e te ti : TypeId} {fs fo : Array Field} (huo : P.underlying o = some (.struct fo)) (hoo : fo.toList.map (fun f => (f.offset, f.type)) = [(0, ti), (1, ti), (2, ti), (3, te)]) (hct : P.cellsOf te = 1)
    (hte : P.underlying te = some (.slice e)) (hu : P.underlying e = some (.struct fs)) (ho : fs.toList.map (fun f => (f.offset, f.type)) = [(0, ti), (1, ti)]) (hi : P.underlying ti = some (.int .i64)) (hci : P.cellsOf ti = 1) (hce : P.cellsOf e = 2) (hby : P.bytesOf e = 16)
    (n : Nat) (cs : List Value) (y : DataW H × List MemPlace) (hl : cs.length = 4) (h : DataW.trod enc P w base (fun _ => true) held n o cs = some y) (hw : (y.1.weights P o).all (· ≤ reachBytes) = true) : ∃ x : OpQ, x.cs = cs ∧ (KeysIn w w.heap.size x.A x.c x.keys ∧ (Lit.int .i64 x.id).wf = true) := by
  obtain ⟨l⟩ := fo
  have hlen : l.length = 4 := by simpa using congrArg List.length hoo
  match l, hlen, hoo with
  | [f0, f1, f2, f3], _, hoo =>
    simp only [List.map_cons, List.map_nil, List.cons.injEq, and_true, Prod.mk.injEq] at hoo
    obtain ⟨⟨o0, e0⟩, ⟨o1, e1⟩, ⟨o2, e2⟩, ⟨o3, e3⟩⟩ := hoo
    obtain ⟨ys, m, _, hy, _, hyl, hf⟩ := DataW.trod_struct huo h
    match cs, hl with
    | [c0, c1, c2, c3], _ =>
      have g0 := hf 0 f0 rfl
      have g1 := hf 1 f1 rfl
      have g2 := hf 2 f2 rfl
      have g3 := hf 3 f3 rfl
      rw [o0, e0, hci] at g0
      rw [o1, e1, hci] at g1
      rw [o2, e2, hci] at g2
      rw [o3, e3, hct] at g3
      simp only [List.drop_zero, List.drop_succ_cons, List.take_succ_cons, List.take_zero] at g0 g1 g2 g3
      match ys, hyl with
      | [y0, y1, y2, y3], _ =>
        subst hy
        have hwe := weights_each (weights_agg huo hw) (j := 3) (t := te) (d := y3.1) (by simp [e3]) rfl
        obtain ⟨a0, q0, _, _⟩ := DataW.trod_int hi g0
        obtain ⟨a1, q1, _, _⟩ := DataW.trod_int hi g1
        obtain ⟨a2, q2, _, wf2⟩ := DataW.trod_int hi g2
        obtain ⟨x, hx, hk⟩ := tq_deep hte hu ho hi hci hce hby m c3 y3 g3 hwe
        simp only [List.cons.injEq, and_true, TQ.cs] at q0 q1 q2 hx
        exact ⟨⟨a0, a1, a2, x.A, x.keys, x.c⟩, by rw [q0, q1, q2, ← hx]; rfl, hk, wf2⟩
end
end Go.Proofs.YtflkddllofeiaaaGreatDoor
