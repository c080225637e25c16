/- The queue and the document's: what their entries have in common (no program in it). -/
import Derived.Test.YtmcknfpohnobdaaDoorRq4
import Derived.Test.YtmcknfpohnobdaaDoorQ14
namespace Go.Proofs.YtmcknfpohnobdaaDoor
set_option linter.unusedSimpArgs false
set_option linter.unusedVariables false

def isOf (e : Ent) : Int := if e.tkn then 2 else if e.rdy then 1 else 0
def RelE (e : Ent) (d : RE) : Prop := d.id = e.id ∧ d.keys = e.keys ∧ d.is = isOf e ∧ (e.tkn = true → d.tch = e.tch) ∧ (e.rdy && e.tkn) = false
def RelL (L : List Ent) (M : List RE) : Prop := L.length = M.length ∧ ∀ i (h : i < L.length) (h' : i < M.length), RelE L[i] M[i]
theorem RelE.idle {e : Ent} {d : RE} (h : RelE e d) : d.idle = (!e.rdy && !e.tkn) := by
  obtain ⟨_, _, h3, _, h5⟩ := h
  unfold RE.idle
  rw [h3, isOf]
  cases e.rdy <;> cases e.tkn <;> simp
theorem RelE.one {e : Ent} {d : RE} (h : RelE e d) : d.is = 1 ↔ e.rdy = true := by
  obtain ⟨_, _, h3, _, h5⟩ := h
  rw [h3, isOf]
  cases hr : e.rdy <;> cases ht : e.tkn <;> simp_all
theorem RelE.two {e : Ent} {d : RE} (h : RelE e d) : d.is = 2 ↔ e.tkn = true := by
  obtain ⟨_, _, h3, _, h5⟩ := h
  rw [h3, isOf]
  cases hr : e.rdy <;> cases ht : e.tkn <;> simp_all
theorem RelE.hit {e : Ent} {d : RE} (h : RelE e d) : RelE e.hit d.hit := by
  obtain ⟨h1, h2, h3, h4, h5⟩ := h
  rw [isOf] at h3
  cases hr : e.rdy <;> cases ht : e.tkn
  · rw [hr, ht] at h3; simp only [Bool.false_eq_true, if_false] at h3
    have e1 : d.hit = { d with is := 1 } := by unfold RE.hit; rw [if_pos h3]
    have e2 : e.hit = { e with rdy := true } := by unfold Ent.hit; rw [if_neg (by simp [ht])]
    rw [e1, e2]
    exact ⟨h1, h2, by simp [isOf, ht], fun q => by simp [ht] at q, by simp [ht]⟩
  · rw [ht] at h3; simp only [if_true] at h3
    have e1 : d.hit = { d with tch := true } := by unfold RE.hit; rw [if_neg (by rw [h3]; decide), if_pos h3]
    have e2 : e.hit = { e with tch := true } := by unfold Ent.hit; rw [if_pos ht]
    rw [e1, e2]
    exact ⟨h1, h2, by simp [isOf, ht, h3], fun _ => rfl, by simp [hr]⟩
  · rw [hr, ht] at h3; simp only [Bool.false_eq_true, if_false, if_true] at h3
    have e1 : d.hit = d := by unfold RE.hit; rw [if_neg (by rw [h3]; decide), if_neg (by rw [h3]; decide)]
    have e2 : e.hit = { e with rdy := true } := by unfold Ent.hit; rw [if_neg (by simp [ht])]
    rw [e1, e2]
    exact ⟨h1, h2, by simp [isOf, ht, h3], fun q => by simp [ht] at q, by simp [ht]⟩
  · rw [hr, ht] at h5; simp at h5
theorem RelL.ids {L : List Ent} {M : List RE} (h : RelL L M) : L.map (·.id) = M.map (·.id) := by
  refine List.ext_getElem (by simpa using h.1) (fun i h1 h2 => ?_)
  rw [List.getElem_map, List.getElem_map]
  exact (h.2 i (by simpa using h1) (by simpa using h2)).1.symm
theorem RelL.tail {e : Ent} {d : RE} {L : List Ent} {M : List RE} (h : RelL (e :: L) (d :: M)) : RelE e d ∧ RelL L M := by
  have h0 := h.2 0 (by simp) (by simp)
  simp only [List.getElem_cons_zero] at h0
  exact ⟨h0, by simpa using h.1, fun i h1 h2 => by
    have := h.2 (i + 1) (by simpa using h1) (by simpa using h2)
    simpa using this⟩
theorem RelL.idles {L : List Ent} {M : List RE} (h : RelL L M) : (L.filter (fun x => !x.rdy && !x.tkn)).map (·.id) = (M.filter RE.idle).map (·.id) := by
  induction L generalizing M with
  | nil =>
    obtain rfl : M = [] := List.eq_nil_of_length_eq_zero h.1.symm
    rfl
  | cons e L ih =>
    cases M with
    | nil => exact absurd h.1 (by simp)
    | cons x M =>
      obtain ⟨h0, ht⟩ := h.tail
      rw [List.filter_cons, List.filter_cons, h0.idle]
      split
      · rw [List.map_cons, List.map_cons, ih ht, h0.1]
      · exact ih ht
theorem RelL.nil : RelL [] [] := ⟨rfl, fun i h => by simp at h⟩
theorem RelL.snoc {L : List Ent} {M : List RE} (h : RelL L M) {e : Ent} {x : RE} (hx : RelE e x) : RelL (L ++ [e]) (M ++ [x]) := by
  refine ⟨by simp [h.1], fun i h1 h2 => ?_⟩
  by_cases hi : i < L.length
  · rw [List.getElem_append_left hi, List.getElem_append_left (by rw [← h.1]; exact hi)]
    exact h.2 i hi _
  · have hl := h.1
    have : i = L.length := by simp at h1; omega
    subst this
    rw [List.getElem_append_right (Nat.le_refl _), List.getElem_append_right (by omega)]
    simpa [hl] using hx
theorem RelL.set {L : List Ent} {M : List RE} (h : RelL L M) {k : Nat} {e : Ent} {x : RE} (hx : RelE e x) : RelL (L.set k e) (M.set k x) := by
  refine ⟨by simp [h.1], fun i h1 h2 => ?_⟩
  rw [List.getElem_set, List.getElem_set]
  split
  · exact hx
  · exact h.2 i (by simpa using h1) (by simpa using h2)
theorem RelL.erase {L : List Ent} {M : List RE} (h : RelL L M) (k : Nat) : RelL (L.eraseIdx k) (M.eraseIdx k) := by
  refine ⟨by rw [List.length_eraseIdx, List.length_eraseIdx, h.1], fun i h1 h2 => ?_⟩
  rw [List.getElem_eraseIdx, List.getElem_eraseIdx]
  split
  · exact h.2 i _ _
  · exact h.2 (i + 1) _ _
theorem RelL.has {L : List Ent} {M : List RE} (h : RelL L M) (id : Int) : (∃ e ∈ L, e.id = id) ↔ ∃ e ∈ M, e.id = id := by
  have hi := h.ids
  have h1 : (∃ e ∈ L, e.id = id) ↔ id ∈ L.map (·.id) := by simp
  have h2 : (∃ e ∈ M, e.id = id) ↔ id ∈ M.map (·.id) := by simp
  rw [h1, h2, hi]
theorem RelL.put_eq {L : List Ent} {M : List RE} (h : RelL L M) (room id : Int) : putN L room id = putRN M room id := by
  unfold putN putRN
  rw [h.1]
  by_cases hx : ∃ e ∈ L, e.id = id
  · rw [if_pos hx, if_pos ((h.has id).1 hx)]
  · rw [if_neg hx, if_neg (fun q => hx ((h.has id).2 q))]
theorem RelL.touch {L : List Ent} {M : List RE} (h : RelL L M) (ks : List Key) : RelL (turnBy L (fun e => meets e.keys ks)) (M.map (RE.touch ks)) ∧ freshBy L (fun e => meets e.keys ks) = freshR M ks := by
  refine ⟨⟨by unfold turnBy; simpa using h.1, fun i h1 h2 => ?_⟩, ?_⟩
  · have hi : i < L.length := by unfold turnBy at h1; simpa using h1
    have hm : i < M.length := by simpa using h2
    have hk := h.2 i hi hm
    rw [turnBy_get hi, List.getElem_map]
    unfold RE.touch
    rw [hk.2.1]
    cases meets L[i].keys ks
    · simpa using hk
    · simpa using hk.hit
  · unfold freshBy freshR
    induction L generalizing M with
    | nil =>
      obtain rfl : M = [] := List.eq_nil_of_length_eq_zero h.1.symm
      rfl
    | cons e L ih =>
      cases M with
      | nil => exact absurd h.1 (by simp)
      | cons x M =>
        obtain ⟨h0, ht⟩ := h.tail
        have h1 : (meets e.keys ks && (!e.tkn && !e.rdy)) = (meets x.keys ks && decide (x.is = 0)) := by
          rw [h0.2.1, show decide (x.is = 0) = x.idle from rfl, h0.idle, Bool.and_comm (!e.rdy)]
        rw [List.filter_cons, List.filter_cons, h1]
        split
        · rw [List.length_cons, List.length_cons, ih ht]
        · exact ih ht
theorem RelL.take {L L' : List Ent} {M M' : List RE} {n n' : Int} {ok ok' : Bool} (h : RelL L M) (hq : TakeQ L L' n ok) (hr : TakeR M M' n' ok') : n = n' ∧ ok = ok' ∧ RelL L' M' := by
  have hx : ∀ i (h1 : i < L.length) (h2 : i < M.length), L[i].rdy = true ↔ M[i].is = 1 := fun i h1 h2 => (h.2 i h1 h2).one.symm
  rcases hq with ⟨rfl, rfl, rfl, hno⟩ | ⟨k, hk, rfl, h2, h3, rfl, rfl⟩
  · rcases hr with ⟨rfl, rfl, rfl, _⟩ | ⟨j, hj, _, g2, _, _, _⟩
    · exact ⟨rfl, rfl, h⟩
    · have hl : j < L'.length := by rw [h.1]; exact hj
      have := (hx j hl hj).2 g2
      rw [hno _ (List.getElem_mem hl)] at this
      cases this
  · have hkM : k < M.length := by rw [← h.1]; exact hk
    rcases hr with ⟨_, _, _, g4⟩ | ⟨j, hj, rfl, g2, g3, rfl, rfl⟩
    · exact absurd ((hx k hk hkM).1 h2) (g4 _ (List.getElem_mem hkM))
    · have hjL : j < L.length := by rw [h.1]; exact hj
      have : k = j := by
        rcases Nat.lt_trichotomy k j with q | q | q
        · exact absurd ((hx k hk hkM).1 h2) (g3 k q)
        · exact q
        · have := (hx j hjL hj).2 g2
          rw [h3 j q] at this
          cases this
      subst this
      have hr0 := h.2 k hk hkM
      exact ⟨hr0.1.symm, rfl, h.set ⟨hr0.1, hr0.2.1, rfl, fun _ => rfl, rfl⟩⟩
theorem RelL.back {L L' : List Ent} {M M' : List RE} {id : Int} {ok ok' : Bool} (h : RelL L M) (hn : (L.map (·.id)).Nodup) (hq : BackQ L L' id ok) (hr : BackR M M' id ok') : ok = ok' ∧ RelL L' M' := by
  rcases hq with ⟨rfl, rfl, hno⟩ | ⟨k, hk, h1, h2, rfl, rfl⟩
  · rcases hr with ⟨rfl, rfl, _⟩ | ⟨j, hj, g1, g2, _, _⟩
    · exact ⟨rfl, h⟩
    · have hl : j < L'.length := by rw [h.1]; exact hj
      have h0 := h.2 j hl hj
      have := hno _ (List.getElem_mem hl) (h0.1.symm.trans g1)
      rw [h0.two.1 g2] at this
      cases this
  · have hkM : k < M.length := by rw [← h.1]; exact hk
    have h0 := h.2 k hk hkM
    rcases hr with ⟨_, _, g | ⟨j, hj, g1, g2⟩⟩ | ⟨j, hj, g1, g2, rfl, rfl⟩
    · exact absurd (h0.1.trans h1) (g _ (List.getElem_mem hkM))
    · have hjL : j < L.length := by rw [h.1]; exact hj
      have : k = j := nd_get hn hk hjL (h1.trans ((h.2 j hjL hj).1.symm.trans g1).symm)
      subst this
      exact absurd (h0.two.2 h2) g2
    · have hjL : j < L.length := by rw [h.1]; exact hj
      have : k = j := nd_get hn hk hjL (h1.trans ((h.2 j hjL hj).1.symm.trans g1).symm)
      subst this
      have ht := h0.2.2.2.1 h2
      refine ⟨ht.symm, h.set ⟨h0.1, h0.2.1, ?_, fun q => by simp at q, by simp⟩⟩
      rw [ht]
      rfl
theorem RelL.remove {L L' : List Ent} {M M' : List RE} {id : Int} {ok ok' : Bool} (h : RelL L M) (hn : (L.map (·.id)).Nodup) (hq : RemQ L L' id ok) (hr : RemvR M M' id ok') : ok = ok' ∧ RelL L' M' := by
  rcases hq with ⟨rfl, rfl, hno⟩ | ⟨k, hk, h1, rfl, rfl⟩
  · rcases hr with ⟨rfl, rfl, _⟩ | ⟨j, hj, g1, _, _⟩
    · exact ⟨rfl, h⟩
    · have hl : j < L'.length := by rw [h.1]; exact hj
      exact absurd ((h.2 j hl hj).1.symm.trans g1) (hno _ (List.getElem_mem hl))
  · have hkM : k < M.length := by rw [← h.1]; exact hk
    have h0 := h.2 k hk hkM
    rcases hr with ⟨_, _, g⟩ | ⟨j, hj, g1, rfl, rfl⟩
    · exact absurd (h0.1.trans h1) (g _ (List.getElem_mem hkM))
    · have hjL : j < L.length := by rw [h.1]; exact hj
      have : k = j := nd_get hn hk hjL (h1.trans ((h.2 j hjL hj).1.symm.trans g1).symm)
      subst this
      exact ⟨rfl, h.erase k⟩
end Go.Proofs.YtmcknfpohnobdaaDoor
