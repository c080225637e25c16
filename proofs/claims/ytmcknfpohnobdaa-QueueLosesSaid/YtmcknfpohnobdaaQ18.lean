/- QueueLoses: plain words; rows written in place. -/
import Derived.Test.YtmcknfpohnobdaaQ17
namespace Go.Proofs.Ytmcknfpohnobdaa
set_option linter.unusedSimpArgs false
set_option linter.unusedVariables false
open Go.RowKit Go.MapKept Go.ChangeMaps Go.Maps

theorem own_setN {w : World} {base g c n s : Nat} {e : TypeId} {xs : List Value} (h : w.ownsRow base e s (.slice (some ⟨g, 0, none⟩) n c) n xs) (k : Nat) (u : Value) : (w.setCell ⟨g, k, none⟩ u).ownsRow base e s (.slice (some ⟨g, 0, none⟩) n c) n (xs.set k u) := by
  obtain ⟨hl, h | ⟨g', cap, cur, hv, hb, hh, hn, hc, hs, ht⟩⟩ := h
  · exact absurd h.1 (by simp)
  · injection hv with h1 h2 h3
    injection h1 with h1
    injection h1 with h1
    subst h1 h3
    refine ⟨by simpa using hl, .inr ⟨g, c, cur.setIfInBounds k u, rfl, hb, ?_, hn, hc, by simpa using hs, ?_⟩⟩
    · exact (show Blk w g e cur from hh).set_ k u
    · rw [Array.toList_setIfInBounds, List.take_set, ht]
/-- An entry and what is known of it. -/
def KR (e : Ent) (x : Kn) : Prop := x.id = e.id ∧ x.keys = e.keys ∧ x.dirty = (e.rdy || (e.tkn && e.tch)) ∧ x.out = e.tkn ∧ (e.rdy && e.tkn) = false
def All2 (L : List Ent) (M : List Kn) : Prop := L.length = M.length ∧ ∀ i (h : i < L.length) (h' : i < M.length), KR L[i] M[i]
theorem All2.ids {L : List Ent} {M : List Kn} (h : All2 L M) : L.map (·.id) = M.map (·.id) := by
  refine List.ext_getElem (by simpa using h.1) (fun i h1 h2 => ?_)
  rw [List.getElem_map, List.getElem_map]
  exact (h.2 i (by simpa using h1) (by simpa using h2)).1.symm
theorem KR.idle {e : Ent} {x : Kn} (h : KR e x) : x.idle = (!e.rdy && !e.tkn) := by
  obtain ⟨_, _, h3, h4, h5⟩ := h
  unfold Kn.idle
  rw [h3, h4]
  cases e.rdy <;> cases e.tkn <;> cases e.tch <;> simp_all
theorem KR.hit {e : Ent} {x : Kn} (h : KR e x) : KR e.hit { x with dirty := true } := by
  obtain ⟨h1, h2, h3, h4, h5⟩ := h
  unfold Ent.hit
  cases ht : e.tkn
  · exact ⟨h1, h2, by simp, by simp [h4, ht], by simp [ht]⟩
  · exact ⟨h1, h2, by simp [ht], by simp [h4, ht], by simpa [ht] using h5⟩
theorem All2.idles {L : List Ent} {M : List Kn} (h : All2 L M) : (L.filter (fun x => !x.rdy && !x.tkn)).map (·.id) = (M.filter Kn.idle).map (·.id) := by
  induction L generalizing M with
  | nil =>
    obtain rfl : M = [] := List.eq_nil_of_length_eq_zero h.1.symm
    rfl
  | cons e L ih =>
    cases M with
    | nil => exact absurd h.1 (by simp)
    | cons x M =>
      have h0 := h.2 0 (by simp) (by simp)
      simp only [List.getElem_cons_zero] at h0
      have ht : All2 L M := ⟨by simpa using h.1, fun i h1 h2 => by
        have := h.2 (i + 1) (by simpa using h1) (by simpa using h2)
        simpa using this⟩
      have hi := h0.idle
      rw [List.filter_cons, List.filter_cons, hi]
      split
      · rw [List.map_cons, List.map_cons, ih ht, h0.1]
      · exact ih ht
theorem All2.touch {L : List Ent} {M : List Kn} (h : All2 L M) (ks : List Key) : All2 (turnBy L (fun e => meets e.keys ks)) (M.map (fun x => { x with dirty := x.dirty || meets x.keys ks })) := by
  refine ⟨by unfold turnBy; simpa using h.1, fun i h1 h2 => ?_⟩
  have hi : i < L.length := by unfold turnBy at h1; simpa using h1
  have hm : i < M.length := by simpa using h2
  have hk := h.2 i hi hm
  rw [turnBy_get hi, List.getElem_map]
  have hme : meets M[i].keys ks = meets L[i].keys ks := by rw [hk.2.1]
  cases hmm : meets L[i].keys ks
  · rw [hmm] at hme
    simpa [hme] using hk
  · rw [hmm] at hme
    simpa [hme] using hk.hit
theorem All2.snoc {L : List Ent} {M : List Kn} (h : All2 L M) {e : Ent} {x : Kn} (hx : KR e x) : All2 (L ++ [e]) (M ++ [x]) := by
  refine ⟨by simp [h.1], fun i h1 h2 => ?_⟩
  by_cases hi : i < L.length
  · rw [List.getElem_append_left hi, List.getElem_append_left (by rw [← h.1]; exact hi)]
    exact h.2 i hi _
  · have hl := h.1
    have : i = L.length := by simp at h1; omega
    subst this
    rw [List.getElem_append_right (Nat.le_refl _), List.getElem_append_right (by omega)]
    simpa [hl] using hx
theorem All2.set {L : List Ent} {M : List Kn} (h : All2 L M) {k : Nat} {e : Ent} {x : Kn} (hx : KR e x) : All2 (L.set k e) (M.set k x) := by
  refine ⟨by simp [h.1], fun i h1 h2 => ?_⟩
  rw [List.getElem_set, List.getElem_set]
  split
  · exact hx
  · exact h.2 i (by simpa using h1) (by simpa using h2)
theorem KR.take {e : Ent} {x : Kn} (h : KR e x) (hr : e.rdy = true) : x.dirty = true ∧ x.out = false ∧ KR { e with rdy := false, tkn := true, tch := false } { x with dirty := false, out := true } := by
  obtain ⟨h1, h2, h3, h4, h5⟩ := h
  rw [hr, Bool.true_and] at h5
  exact ⟨by rw [h3, hr]; rfl, by rw [h4, h5], h1, h2, rfl, rfl, rfl⟩
theorem KR.back {e : Ent} {x : Kn} (h : KR e x) (ht : e.tkn = true) : x.out = true ∧ x.dirty = e.tch ∧ KR { e with rdy := e.tch, tkn := false } { x with out := false } := by
  obtain ⟨h1, h2, h3, h4, h5⟩ := h
  rw [ht, Bool.and_true] at h5
  have hd : x.dirty = e.tch := by rw [h3, h5, ht]; simp
  exact ⟨by rw [h4, ht], hd, h1, h2, by simp [hd], rfl, by simp⟩
theorem KR.stay {e : Ent} {x : Kn} (h : KR e x) (ht : e.tkn = false) : x.out = false ∧ KR e { x with out := false } := by
  obtain ⟨h1, h2, h3, h4, h5⟩ := h
  exact ⟨by rw [h4, ht], h1, h2, h3, ht.symm, h5⟩
theorem All2.erase {L : List Ent} {M : List Kn} (h : All2 L M) (k : Nat) : All2 (L.eraseIdx k) (M.eraseIdx k) := by
  refine ⟨by rw [List.length_eraseIdx, List.length_eraseIdx, h.1], fun i h1 h2 => ?_⟩
  rw [List.getElem_eraseIdx, List.getElem_eraseIdx]
  split
  · exact h.2 i _ _
  · exact h.2 (i + 1) _ _
theorem wo_at {M : List Kn} {k : Nat} (hk : k < M.length) : wo M k M.length = M.eraseIdx k := by
  unfold wo
  rw [if_pos (by omega), List.take_length, Int.toNat_natCast]
theorem wo_none (M : List Kn) : wo M (-1) M.length = M := by
  unfold wo
  rw [if_neg (by omega), List.take_length]
end Go.Proofs.Ytmcknfpohnobdaa
