/- Arguments opened: structs of several fields by value, slices of structs as lists; their weights. -/
import Derived.Test.YtflkddllofeiaaaGreatDoorKit0
import Derived.SizedLaws
import Derived.ChangeSlices
namespace Go.Proofs.YtflkddllofeiaaaGreatDoor
set_option linter.unusedSimpArgs false
open Go.RowKit Go.ChangeShapes Go.WideShapes Go.Deep Go.Joins
set_option linter.unusedVariables false

section
variable {H : Type} {enc : TypeId × Value → H} {P : Program} {w : World} {base : Nat} {spare : Nat → Bool} {held : Bool}
theorem open_agg7 {r : Reach} {b0 : Nat} {t : TypeId} {f0 f1 f2 f3 f4 f5 f6 : Field} {v : Value} {d : DataW H} {p : List MemPlace} (hs : P.underlying t = some (.struct #[f0, f1, f2, f3, f4, f5, f6])) (hone : oneCellFields P #[f0, f1, f2, f3, f4, f5, f6] = true) (hC : P.cellsOf t = 7)
    (hv : Value.okWide P w r b0 t v) (h : DataW.Trod enc P w base spare held t v d p) :
    ∃ (v0 v1 v2 v3 v4 v5 v6 : Value) (y0 y1 y2 y3 y4 y5 y6 : DataW H × List MemPlace) (n : Nat), v = .agg #[v0, v1, v2, v3, v4, v5, v6] ∧ d = .agg [y0.1, y1.1, y2.1, y3.1, y4.1, y5.1, y6.1] ∧ p = y0.2 ++ (y1.2 ++ (y2.2 ++ (y3.2 ++ (y4.2 ++ (y5.2 ++ (y6.2)))))) ∧
      DataW.trod enc P w base spare held n f0.type [v0] = some y0 ∧ DataW.trod enc P w base spare held n f1.type [v1] = some y1 ∧ DataW.trod enc P w base spare held n f2.type [v2] = some y2 ∧ DataW.trod enc P w base spare held n f3.type [v3] = some y3 ∧ DataW.trod enc P w base spare held n f4.type [v4] = some y4 ∧ DataW.trod enc P w base spare held n f5.type [v5] = some y5 ∧ DataW.trod enc P w base spare held n f6.type [v6] = some y6 := by
  obtain ⟨cs, rfl, hsz⟩ := okWide_struct hs hv
  obtain ⟨l⟩ := cs
  match l, hsz.trans hC with
  | [c0, c1, c2, c3, c4, c5, c6], _ =>
    obtain ⟨fuel, hf⟩ := h
    obtain ⟨xs, n, _, hx, _, hlen, hg⟩ := DataW.trod_struct hs hf
    obtain ⟨o0, k0⟩ := hone_of hone 0 f0 rfl
    obtain ⟨o1, k1⟩ := hone_of hone 1 f1 rfl
    obtain ⟨o2, k2⟩ := hone_of hone 2 f2 rfl
    obtain ⟨o3, k3⟩ := hone_of hone 3 f3 rfl
    obtain ⟨o4, k4⟩ := hone_of hone 4 f4 rfl
    obtain ⟨o5, k5⟩ := hone_of hone 5 f5 rfl
    obtain ⟨o6, k6⟩ := hone_of hone 6 f6 rfl
    match xs, hlen with
    | [y0, y1, y2, y3, y4, y5, y6], _ =>
      simp only [Prod.mk.injEq] at hx
      exact ⟨c0, c1, c2, c3, c4, c5, c6, y0, y1, y2, y3, y4, y5, y6, n, rfl, by simpa using hx.1, by simpa using hx.2, by simpa [Value.cells, o0, k0] using hg 0 f0 rfl, by simpa [Value.cells, o1, k1] using hg 1 f1 rfl, by simpa [Value.cells, o2, k2] using hg 2 f2 rfl, by simpa [Value.cells, o3, k3] using hg 3 f3 rfl, by simpa [Value.cells, o4, k4] using hg 4 f4 rfl, by simpa [Value.cells, o5, k5] using hg 5 f5 rfl, by simpa [Value.cells, o6, k6] using hg 6 f6 rfl⟩
theorem open_agg8 {r : Reach} {b0 : Nat} {t : TypeId} {f0 f1 f2 f3 f4 f5 f6 f7 : Field} {v : Value} {d : DataW H} {p : List MemPlace} (hs : P.underlying t = some (.struct #[f0, f1, f2, f3, f4, f5, f6, f7])) (hone : oneCellFields P #[f0, f1, f2, f3, f4, f5, f6, f7] = true) (hC : P.cellsOf t = 8)
    (hv : Value.okWide P w r b0 t v) (h : DataW.Trod enc P w base spare held t v d p) :
    ∃ (v0 v1 v2 v3 v4 v5 v6 v7 : Value) (y0 y1 y2 y3 y4 y5 y6 y7 : DataW H × List MemPlace) (n : Nat), v = .agg #[v0, v1, v2, v3, v4, v5, v6, v7] ∧ d = .agg [y0.1, y1.1, y2.1, y3.1, y4.1, y5.1, y6.1, y7.1] ∧ p = y0.2 ++ (y1.2 ++ (y2.2 ++ (y3.2 ++ (y4.2 ++ (y5.2 ++ (y6.2 ++ (y7.2))))))) ∧
      DataW.trod enc P w base spare held n f0.type [v0] = some y0 ∧ DataW.trod enc P w base spare held n f1.type [v1] = some y1 ∧ DataW.trod enc P w base spare held n f2.type [v2] = some y2 ∧ DataW.trod enc P w base spare held n f3.type [v3] = some y3 ∧ DataW.trod enc P w base spare held n f4.type [v4] = some y4 ∧ DataW.trod enc P w base spare held n f5.type [v5] = some y5 ∧ DataW.trod enc P w base spare held n f6.type [v6] = some y6 ∧ DataW.trod enc P w base spare held n f7.type [v7] = some y7 := by
  obtain ⟨cs, rfl, hsz⟩ := okWide_struct hs hv
  obtain ⟨l⟩ := cs
  match l, hsz.trans hC with
  | [c0, c1, c2, c3, c4, c5, c6, c7], _ =>
    obtain ⟨fuel, hf⟩ := h
    obtain ⟨xs, n, _, hx, _, hlen, hg⟩ := DataW.trod_struct hs hf
    obtain ⟨o0, k0⟩ := hone_of hone 0 f0 rfl
    obtain ⟨o1, k1⟩ := hone_of hone 1 f1 rfl
    obtain ⟨o2, k2⟩ := hone_of hone 2 f2 rfl
    obtain ⟨o3, k3⟩ := hone_of hone 3 f3 rfl
    obtain ⟨o4, k4⟩ := hone_of hone 4 f4 rfl
    obtain ⟨o5, k5⟩ := hone_of hone 5 f5 rfl
    obtain ⟨o6, k6⟩ := hone_of hone 6 f6 rfl
    obtain ⟨o7, k7⟩ := hone_of hone 7 f7 rfl
    match xs, hlen with
    | [y0, y1, y2, y3, y4, y5, y6, y7], _ =>
      simp only [Prod.mk.injEq] at hx
      exact ⟨c0, c1, c2, c3, c4, c5, c6, c7, y0, y1, y2, y3, y4, y5, y6, y7, n, rfl, by simpa using hx.1, by simpa using hx.2, by simpa [Value.cells, o0, k0] using hg 0 f0 rfl, by simpa [Value.cells, o1, k1] using hg 1 f1 rfl, by simpa [Value.cells, o2, k2] using hg 2 f2 rfl, by simpa [Value.cells, o3, k3] using hg 3 f3 rfl, by simpa [Value.cells, o4, k4] using hg 4 f4 rfl, by simpa [Value.cells, o5, k5] using hg 5 f5 rfl, by simpa [Value.cells, o6, k6] using hg 6 f6 rfl, by simpa [Value.cells, o7, k7] using hg 7 f7 rfl⟩

theorem weights_each {ts : List TypeId} {ds : List (DataW H)} (h : (DataW.weightsEach P ts ds).all (· ≤ reachBytes) = true) {j : Nat} {t : TypeId} {d : DataW H} (ht : ts[j]? = some t) (hd : ds[j]? = some d) : (d.weights P t).all (· ≤ reachBytes) = true := by
  induction ts generalizing ds j with
  | nil => simp at ht
  | cons t0 ts ih =>
    cases ds with
    | nil => simp at hd
    | cons d0 ds =>
      rw [DataW.weightsEach, List.all_append, Bool.and_eq_true] at h
      cases j with
      | zero =>
        simp only [List.getElem?_cons_zero, Option.some.injEq] at ht hd
        subst ht hd
        exact h.1
      | succ j => exact ih h.2 (by simpa using ht) (by simpa using hd)
theorem weights_agg {t : TypeId} {fs : Array Field} (hu : P.underlying t = some (.struct fs)) {parts : List (DataW H)} (h : ((DataW.agg parts).weights P t).all (· ≤ reachBytes) = true) : (DataW.weightsEach P (fs.toList.map (·.type)) parts).all (· ≤ reachBytes) = true := by
  simpa [DataW.weights, hu] using h
theorem weights_slice {t e : TypeId} (hu : P.underlying t = some (.slice e)) {E S : List (DataW H)} (h : ((DataW.slice E S).weights P t).all (· ≤ reachBytes) = true) : (E.length + S.length) * P.bytesOf e ≤ 140737488351232 := by
  simp only [DataW.weights, hu, List.all_cons, Bool.and_eq_true, decide_eq_true_eq] at h
  exact h.1

theorem list_of {α : Type} {n : Nat} {p : Nat → α → Prop} (h : ∀ i, i < n → ∃ x, p i x) : ∃ xs : List α, xs.length = n ∧ ∀ i (hi : i < xs.length), p i xs[i] := by
  induction n with
  | zero => exact ⟨[], rfl, fun i hi => absurd hi (by simp)⟩
  | succ n ih =>
    obtain ⟨xs, hl, hx⟩ := ih fun i hi => h i (by omega)
    obtain ⟨x, hxn⟩ := h n (by omega)
    refine ⟨xs ++ [x], by simp [hl], fun i hi => ?_⟩
    by_cases hlt : i < xs.length
    · rw [List.getElem_append_left hlt]; exact hx i hlt
    · have : i = n := by simp at hi; omega
      subst this
      rw [List.getElem_append_right (by omega)]
      simpa [hl] using hxn

/-- A slice of structs of one-cell fields, as a list: 'hel' tells how one element is made out of its fields' readings. -/
theorem open_rows {α : Type} {en : α → List Value} {s : Nat} (hs : ∀ x, (en x).length = s) {t e : TypeId} {fs : Array Field} {fuel : Nat} {v : Value} {x : DataW H × List MemPlace} (ht : P.underlying t = some (.slice e)) (he : P.underlying e = some (.struct fs))
    (hone : oneCellFields P fs = true) (hC : P.cellsOf e = fs.size) (hfs : fs.size = s) (hs0 : 0 < s)
    (hel : ∀ (n : Nat) (vs : Nat → Value) (ys : Nat → DataW H × List MemPlace), (∀ (j : Nat) (f : Field), fs[j]? = some f → DataW.trod enc P w base (fun _ => true) held n f.type [vs j] = some (ys j)) → ∃ x : α, ∀ j, j < s → (en x)[j]? = some (vs j))
    (h : DataW.trod enc P w base (fun _ => true) held fuel t [v] = some x) :
    ∃ (xs : List α) (A : Option Addr) (c : Nat), v = .slice A xs.length c ∧ xs.length ≤ c ∧ c ≤ maxLen ∧ Reads w w.heap.size s A xs.length (xs.flatMap en) ∧
      (∀ {B : Nat}, P.bytesOf e = B → (x.1.weights P t).all (· ≤ reachBytes) = true → xs.length * B ≤ 140737488351232) := by
  rcases open_slice_fields ht he hone hC h with ⟨hv, _⟩ | ⟨a, len, cap, m, D, Pl, hv, _, hl, hm, hmm, hx, hf⟩
  · simp only [List.cons.injEq, and_true] at hv
    subst hv
    exact ⟨[], none, 0, rfl, Nat.le_refl _, Nat.zero_le _, Reads.none_, fun _ _ => by simp⟩
  · simp only [List.cons.injEq, and_true] at hv
    subst hv
    rw [if_pos rfl] at hmm
    subst hmm
    obtain ⟨xs, hxl, hxs⟩ := list_of (p := fun i x => ∀ j, j < s → ∃ u, w.cell? (a.add (i * s + j)) = some u ∧ (en x)[j]? = some u) (n := len) fun i hi => by
      obtain ⟨ys, n, _, _, hyl, hc⟩ := hf i (by omega)
      rw [hfs] at hc hyl
      have hcell : ∀ j, j < s → ∃ u, w.cell? (a.add (i * s + j)) = some u := fun j hj => by
        obtain ⟨u, y, h1, _⟩ := hc j fs[j] (Array.getElem?_eq_getElem (by omega))
        exact ⟨u, h1⟩
      obtain ⟨x, hx⟩ := hel n (fun j => (w.cell? (a.add (i * s + j))).getD undef) (fun j => ys.getD j (.nil, [])) (fun j f hj => by
        obtain ⟨u, y, h1, h2, h3⟩ := hc j f hj
        simp only [h1, Option.getD_some, List.getD_eq_getElem?_getD, h2]
        exact h3)
      exact ⟨x, fun j hj => by obtain ⟨u, hu⟩ := hcell j hj; refine ⟨u, hu, ?_⟩; rw [hx j hj]; simp [hu]⟩
    subst hxl
    refine ⟨xs, some a, m, rfl, hl, hm, ⟨flat_length hs xs, fun h0 => ⟨a, rfl, ?_, fun q u hq => ?_⟩⟩, fun hB hw => ?_⟩
    · obtain ⟨u, hu, _⟩ := hxs 0 h0 0 hs0
      have := World.block_lt_of_cell? w _ hu
      rwa [block_of_add] at this
    · have hlt := (List.getElem?_eq_some_iff.1 hq).1
      rw [flat_length hs] at hlt
      have hk : q / s < xs.length := Nat.div_lt_of_lt_mul (by rwa [Nat.mul_comm] at hlt)
      have hq2 : q / s * s + q % s = q := by rw [Nat.mul_comm]; exact Nat.div_add_mod q s
      obtain ⟨u', h1, h2⟩ := hxs (q / s) hk (q % s) (Nat.mod_lt _ hs0)
      rw [hq2] at h1
      have h3 := flat_get hs xs (q / s) (q % s) (Nat.mod_lt _ hs0) hk
      rw [hq2, hq, h2] at h3
      rw [h1, h3]
    · subst hx
      have z := weights_slice ht hw
      rw [hB] at z
      simp only [List.length_map, List.length_range] at z
      exact Nat.le_trans (Nat.mul_le_mul_right _ (by omega)) z

theorem leg_el {ti tq : TypeId} {fs : Array Field} (hi : fs.toList.map (·.type) = [ti, ti, ti, tq, ti]) (hu : P.underlying ti = some (.int .i64)) (hq : P.underlying tq = some (.int .i64)) (n : Nat) (vs : Nat → Value) (ys : Nat → DataW H × List MemPlace)
    (h : ∀ (j : Nat) (f : Field), fs[j]? = some f → DataW.trod enc P w base spare held n f.type [vs j] = some (ys j)) : ∃ x : Leg, ∀ j, j < 5 → x.cs[j]? = some (vs j) := by
  obtain ⟨l⟩ := fs
  have hlen : l.length = 5 := by simpa using congrArg List.length hi
  match l, hlen, hi with
  | [f0, f1, f2, f3, f4], _, hi =>
    simp only [List.map_cons, List.map_nil, List.cons.injEq, and_true] at hi
    obtain ⟨e0, e1, e2, e3, e4⟩ := hi
    obtain ⟨a0, g0, _, _⟩ := DataW.trod_int hu (by have := h 0 f0 rfl; rwa [e0] at this)
    obtain ⟨a1, g1, _, _⟩ := DataW.trod_int hu (by have := h 1 f1 rfl; rwa [e1] at this)
    obtain ⟨a2, g2, _, _⟩ := DataW.trod_int hu (by have := h 2 f2 rfl; rwa [e2] at this)
    obtain ⟨a3, g3, _, _⟩ := DataW.trod_int hq (by have := h 3 f3 rfl; rwa [e3] at this)
    obtain ⟨a4, g4, _, _⟩ := DataW.trod_int hu (by have := h 4 f4 rfl; rwa [e4] at this)
    simp only [List.cons.injEq, and_true] at g0 g1 g2 g3 g4
    refine ⟨⟨a0, a1, a2, a3, a4⟩, fun j hj => ?_⟩
    match j, hj with
    | 0, _ => rw [g0]; rfl
    | 1, _ => rw [g1]; rfl
    | 2, _ => rw [g2]; rfl
    | 3, _ => rw [g3]; rfl
    | 4, _ => rw [g4]; rfl
theorem key_el {ti : TypeId} {fs : Array Field} (hi : fs.toList.map (·.type) = [ti, ti]) (hu : P.underlying ti = some (.int .i64)) (n : Nat) (vs : Nat → Value) (ys : Nat → DataW H × List MemPlace)
    (h : ∀ (j : Nat) (f : Field), fs[j]? = some f → DataW.trod enc P w base spare held n f.type [vs j] = some (ys j)) : ∃ x : Key, ∀ j, j < 2 → x.cs[j]? = some (vs j) := by
  obtain ⟨l⟩ := fs
  have hlen : l.length = 2 := by simpa using congrArg List.length hi
  match l, hlen, hi with
  | [f0, f1], _, hi =>
    simp only [List.map_cons, List.map_nil, List.cons.injEq, and_true] at hi
    obtain ⟨e0, e1⟩ := hi
    obtain ⟨a0, g0, _, _⟩ := DataW.trod_int hu (by have := h 0 f0 rfl; rwa [e0] at this)
    obtain ⟨a1, g1, _, _⟩ := DataW.trod_int hu (by have := h 1 f1 rfl; rwa [e1] at this)
    simp only [List.cons.injEq, and_true] at g0 g1
    refine ⟨⟨a0, a1⟩, fun j hj => ?_⟩
    match j, hj with
    | 0, _ => rw [g0]; rfl
    | 1, _ => rw [g1]; rfl
end
end Go.Proofs.YtflkddllofeiaaaGreatDoor
