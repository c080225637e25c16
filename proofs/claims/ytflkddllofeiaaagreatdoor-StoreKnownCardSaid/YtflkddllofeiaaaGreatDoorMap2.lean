/- Maps as lists of pairs: ranging over them; kinds of keys (no program in it). -/
import Derived.Test.YtflkddllofeiaaaGreatDoorMap
namespace Go.Proofs.YtflkddllofeiaaaGreatDoor
set_option linter.unusedSimpArgs false
set_option linter.unusedVariables false
open Go.RowKit Go.MapKept Go.ChangeMaps Go.Maps

/-- A range over block b that lies at block r: Lf is still to come. -/
def RngT {K V : Type} (ek : K → Value) (ev : V → Value) (w : World) (b r : Nat) (M Lf : List (K × V)) : Prop :=
  ∃ es clock since seen c0, w.heap[b]? = some (.map es clock) ∧ Stamped es clock ∧ es.toList.map pairOf = M.map (fun p => (ek p.1, ev p.2)) ∧ w.heap[r]? = some (.mapIter (some b) since seen c0) ∧
    (∀ x ∈ es.toList, x.born < since) ∧ since ≤ c0 ∧ since ≤ clock ∧ (leftOf es seen).toList.map pairOf = Lf.map (fun p => (ek p.1, ev p.2))
section
variable {K V : Type} {ek : K → Value} {ev : V → Value} {w w' : World} {b r : Nat} {M Lf : List (K × V)} {P : Program}
theorem RngT.map (h : RngT ek ev w b r M Lf) : MapT ek ev w b M := by
  obtain ⟨es, clock, _, _, _, h1, h2, h3, _⟩ := h
  exact ⟨es, clock, h1, h2, h3⟩
theorem RngT.lt (h : RngT ek ev w b r M Lf) : r < w.heap.size := by
  obtain ⟨es, clock, _, _, _, _, _, _, h1, _⟩ := h
  exact (Array.getElem?_eq_some_iff.1 h1).1
theorem RngT.of_blocks (h : RngT ek ev w b r M Lf) (hb : w'.heap[b]? = w.heap[b]?) (hr : w'.heap[r]? = w.heap[r]?) : RngT ek ev w' b r M Lf := by
  obtain ⟨es, clock, since, seen, c0, h1, h2, h3, h4, h5⟩ := h
  exact ⟨es, clock, since, seen, c0, hb.trans h1, h2, h3, hr.trans h4, h5⟩
theorem RngT.below (h : RngT ek ev w b r M Lf) (hb : Below w.heap.size w w') : RngT ek ev w' b r M Lf := h.of_blocks (hb.block b h.map.lt) (hb.block r h.lt)
theorem RngT.ne (h : RngT ek ev w b r M Lf) : r ≠ b := by
  obtain ⟨es, clock, _, _, _, h1, _, _, h4, _⟩ := h
  intro e
  rw [e, h1] at h4
  cases h4
theorem MapT.range {t k e : TypeId} (h : MapT ek ev w b M) (ht : P.underlying t = some (.map k e)) :
    ∃ w', (Instr.range t (.map (some b))).run P w = .ok (.pointer (some ⟨w.heap.size, 0, none⟩)) w' ∧ RngT ek ev w' b w.heap.size M M ∧ Below w.heap.size w w' ∧ w'.heap.size = w.heap.size + 1 := by
  have hlt := h.lt
  obtain ⟨es, clock, hb, hst, hm⟩ := h
  refine ⟨_, run_range_map w t k e b es clock ht hb, ⟨es, clock, clock, #[], clock, ((MapKept.heap_alloc w _).2 b hlt).trans hb, hst, hm, (MapKept.heap_alloc w _).1, hst.1, Nat.le_refl _, Nat.le_refl _, ?_⟩, (Below.refl _ _).alloc (Nat.le_refl _) _, by simp⟩
  rw [← hm]
  have e1 : (leftOf es #[]).toList = es.toList := by
    unfold leftOf
    rw [Array.toList_filter]
    exact List.filter_eq_self.2 (fun x _ => by simp)
  rw [e1]
theorem left_push {es : Array MapEntry} {seen : Array Nat} (hn : (es.toList.map (·.born)).Nodup) {i : Nat} {e : MapEntry} (hi : (leftOf es seen).toList[i]? = some e) :
    (leftOf es (seen.push e.born)).toList = (leftOf es seen).toList.take i ++ (leftOf es seen).toList.drop (i + 1) := by
  have e1 : (leftOf es (seen.push e.born)).toList = (leftOf es seen).toList.filter (fun x => x.born != e.born) := by
    unfold leftOf
    rw [Array.toList_filter, Array.toList_filter, List.filter_filter]
    congr 1
    funext x
    rw [contains_push]
    cases seen.contains x.born <;> simp [bne]
  have hn' : ((leftOf es seen).toList.map (·.born)).Nodup := by
    unfold leftOf
    rw [Array.toList_filter]
    exact (List.filter_sublist.map _).nodup hn
  rw [e1]
  generalize (leftOf es seen).toList = l at hi hn' ⊢
  have hs := split_at hi
  have hn2 := hn'
  rw [hs, List.map_append, List.map_cons, List.nodup_append] at hn2
  obtain ⟨_, h2, h3⟩ := hn2
  have h2' := (List.nodup_cons.1 h2).1
  conv => lhs; rw [hs]
  rw [List.filter_append, List.filter_cons_of_neg (by simp), List.filter_eq_self.2, List.filter_eq_self.2]
  · intro x hx
    have : x.born ≠ e.born := fun h => h2' (h ▸ List.mem_map.2 ⟨x, hx, rfl⟩)
    simpa using this
  · intro x hx
    have : x.born ≠ e.born := h3 x.born (List.mem_map.2 ⟨x, hx, rfl⟩) e.born (by simp)
    simpa using this
/-- The range's step: nothing is left; or some pair comes. -/
theorem RngT.next (h : RngT ek ev w b r M Lf) (ty : TypeId) :
    (Lf = [] ∧ (Instr.next (.pointer (some ⟨r, 0, none⟩)) false ty).run P w = .ok (.tuple #[.bool false]) w) ∨
    ∃ a x v c w', Lf = a ++ (x, v) :: c ∧ (Instr.next (.pointer (some ⟨r, 0, none⟩)) false ty).run P w = .ok (.tuple #[.bool true, ek x, ev v]) w' ∧ RngT ek ev w' b r M (a ++ c) ∧
      w.grownBy w' (some r) ∧ w'.heap.size = w.heap.size ∧ (Instr.entry (.pointer (some ⟨r, 0, none⟩))).run P w' = .ok (.tuple #[ek x, ev v]) w' := by
  have hne := h.ne
  obtain ⟨es, clock, since, seen, c0, hb, hst, hm, hr, hold, hsc, hsk, hl⟩ := h
  rcases run_next_at (P := P) w ty r b since c0 seen es clock hr hb hold hsc with ⟨h0, hrun⟩ | ⟨e, he, w1, hal, hrun⟩
  · refine .inl ⟨?_, hrun⟩
    have h1 : (leftOf es seen).toList = [] := List.eq_nil_of_length_eq_zero (by simpa using h0)
    rw [h1] at hl
    exact List.map_eq_nil_iff.1 hl.symm
  · obtain ⟨hem, hes⟩ := mem_left he
    obtain ⟨i, hi⟩ := List.getElem?_of_mem he
    obtain ⟨⟨x, v⟩, hy, e1, t1, t2⟩ := map_split hl hi
    have ek1 : e.key = ek x := congrArg Prod.fst e1
    have ev1 : e.val = ev v := congrArg Prod.snd e1
    have hr1 : w1.heap[r]? = some (.mapIter (some b) since seen c0) := by rcases hal with rfl | rfl <;> exact hr
    have hb1 : w1.heap[b]? = some (.map es clock) := by rcases hal with rfl | rfl <;> exact hb
    have hset := heap_set (o' := .mapIter (some b) since (seen.push e.born) clock) hr1
    have hb' : (setBlock w1 r (.mapIter (some b) since (seen.push e.born) clock)).heap[b]? = some (.map es clock) := (hset.2 b (fun e1 => hne e1.symm)).trans hb1
    refine .inr ⟨Lf.take i, x, v, Lf.drop (i + 1), _, split_at hy, by rw [hrun, ek1, ev1], ⟨es, clock, since, seen.push e.born, clock, hb', hst, hm, hset.1, hold, hsk, hsk, ?_⟩, ?_, ?_, ?_⟩
    · rw [left_push ((stamped_iff es clock).1 hst).2.1 hi, List.map_append, t1, t2, List.map_append]
    · rcases hal with rfl | rfl <;> exact ⟨rfl, rfl, rfl, by simp [setBlock], fun i _ hi => hset.2 i (fun e1 => hi (by rw [e1]))⟩
    · rcases hal with rfl | rfl <;> simp [setBlock]
    · rw [run_entry_at _ r b since seen es clock e hset.1 hb' hem ((stamped_iff es clock).1 hst).2.1, ek1, ev1]
end

/-- Keys that the search compares by '=='. -/
theorem KeyE.of_equal {K : Type} [DecidableEq K] {P : Program} {k : TypeId} {w : World} {ek : K → Value} {S : K → Prop} {d : TypeDesc} (hk : P.underlying k = some d) (hnow : ∀ x y, Instr.sameNow d (ek x) (ek y) = none) (inj : ∀ {x y}, ek x = ek y → x = y)
    (heq : ∀ {x y}, S x → S y → (Op.equal k (ek x) (ek y)).run P w = .ok (decide (x = y)) w) (hc : ∀ em {x}, S x → (Instr.checkKey em 10000 k (ek x)).run P w = .ok () w) (hs : ∀ {x}, S x → (Instr.keyThatStays (ek x) (ek x)).run P w = .ok (ek x) w) : KeyE P k w ek S where
  inj := inj
  check := hc
  stays := hs
  find {x} hx es hes := by
    have ask : ∀ (l : List MapEntry) (i : Nat), (∀ e ∈ l, ∃ y, S y ∧ e.key = ek y) →
        ((Instr.findAsking k (ek x) l i).run P w = .ok none w ∧ ∀ e ∈ l, e.key ≠ ek x) ∨ ∃ j e, (Instr.findAsking k (ek x) l i).run P w = .ok (some (i + j, e.val)) w ∧ l[j]? = some e ∧ e.key = ek x := by
      intro l
      induction l with
      | nil => intro i _; exact .inl ⟨by simp [Instr.findAsking], by simp⟩
      | cons e l ih =>
        intro i hl
        obtain ⟨y, hy, ey⟩ := hl e (by simp)
        by_cases hxy : x = y
        · have h0 := heq hx hy
          rw [decide_eq_true hxy] at h0
          refine .inr ⟨0, e, ?_, rfl, by rw [ey, hxy]⟩
          unfold Instr.findAsking
          rw [ey]
          simp [h0, Result.andThen]
        · have h0 := heq hx hy
          rw [decide_eq_false hxy] at h0
          rcases ih (i + 1) (fun q hq => hl q (by simp [hq])) with ⟨h1, h2⟩ | ⟨j, q, h1, h2, h3⟩
          · refine .inl ⟨?_, ?_⟩
            · unfold Instr.findAsking
              rw [ey]
              simp [h0, Result.andThen, h1]
            · intro q hq
              rcases List.mem_cons.1 hq with rfl | hq
              · rw [ey]; exact fun h => hxy (inj h).symm
              · exact h2 q hq
          · refine .inr ⟨j + 1, q, ?_, by simpa using h2, h3⟩
            unfold Instr.findAsking
            rw [ey]
            simp [h0, Result.andThen, h1]
            omega
    cases es with
    | nil => exact .inl ⟨by simp [Instr.findKey, run_underlying hk, Instr.findNow], by simp⟩
    | cons e l =>
      obtain ⟨y, hy, ey⟩ := hes e (by simp)
      have hn : Instr.findNow d (ek x) (e :: l) 0 = none := by
        unfold Instr.findNow
        rw [ey, show Instr.sameNow d (ek x) (ek y) = none from hnow x y]
      have hrun : (Instr.findKey k (ek x) (e :: l)).run P w = (Instr.findAsking k (ek x) (e :: l) 0).run P w := by
        simp [Instr.findKey, run_underlying hk, hn]
      rw [hrun]
      simpa using ask (e :: l) 0 hes
end Go.Proofs.YtflkddllofeiaaaGreatDoor
