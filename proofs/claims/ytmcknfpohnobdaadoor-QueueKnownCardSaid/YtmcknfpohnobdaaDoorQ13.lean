/- Queue: what Remove needs, in plain Lean and in memory. -/
import Derived.Test.YtmcknfpohnobdaaDoorQ12
namespace Go.Proofs.YtmcknfpohnobdaaDoor
set_option linter.unusedSimpArgs false
set_option linter.unusedVariables false
open Go.RowKit Go.MapKept Go.ChangeMaps Go.Maps

/-- Who waits while an entry's keys are gone through. -/
def rmF (L : List Ent) (nb : Nat) (pre : List Key) (x : Key) : List (Nat × Int) := if x ∈ pre then mdel (waitsL L x) nb else waitsL L x
theorem mdel_mdel {K V : Type} [DecidableEq K] (M : List (K × V)) (x : K) : mdel (mdel M x) x = mdel M x := by
  unfold mdel
  rw [List.filter_filter]
  exact List.filter_congr (fun p _ => by simp)
theorem rmF_nil (L : List Ent) (nb : Nat) (x : Key) : rmF L nb [] x = waitsL L x := by unfold rmF; simp
theorem rmF_step (L : List Ent) (nb : Nat) (pre : List Key) (x : Key) : mdel (rmF L nb pre x) nb = rmF L nb (pre ++ [x]) x := by
  unfold rmF
  rw [if_pos (show x ∈ pre ++ [x] by simp)]
  split
  · exact mdel_mdel _ _
  · rfl
theorem rmF_other (L : List Ent) (nb : Nat) (pre : List Key) {x k : Key} (h : k ≠ x) : rmF L nb (pre ++ [x]) k = rmF L nb pre k := by
  unfold rmF
  have : k ∈ pre ++ [x] ↔ k ∈ pre := by simp [h]
  by_cases hk : k ∈ pre
  · rw [if_pos hk, if_pos (this.2 hk)]
  · rw [if_neg hk, if_neg (fun q => hk (this.1 q))]
/-- A key found with nothing under it: it has been gone through. -/
theorem rmF_gone {L : List Ent} {y : Ent} {pre : List Key} {x : Key} (hy : y ∈ L) (hx : x ∈ y.keys) (h : rmF L y.b pre x = []) : rmF L y.b (pre ++ [x]) x = [] := by
  rw [← rmF_step, h]; rfl
theorem rmF_end {L : List Ent} {k : Nat} (hn : (L.map (·.b)).Nodup) (hk : k < L.length) (x : Key) : rmF L L[k].b L[k].keys x = waitsL (L.eraseIdx k) x := by
  have hsplit : L = L.take k ++ L[k] :: L.drop (k + 1) := by rw [List.getElem_cons_drop, List.take_append_drop]
  have key := List.pairwise_iff_getElem.1 hn
  have hne : ∀ i (hi : i < L.length), i ≠ k → L[i].b ≠ L[k].b := by
    intro i hi hik
    rcases Nat.lt_or_ge i k with h1 | h1
    · have h2 := key i k (by simpa using hi) (by simpa using hk) h1
      rw [List.getElem_map, List.getElem_map] at h2
      exact h2
    · have h2 := key k i (by simpa using hk) (by simpa using hi) (by omega)
      rw [List.getElem_map, List.getElem_map] at h2
      exact h2.symm
  have h1 : ∀ e ∈ L.take k ++ L.drop (k + 1), e.b ≠ L[k].b := by
    intro e he
    rcases List.mem_append.1 he with he | he
    · obtain ⟨i, hi, rfl⟩ := List.getElem_of_mem he
      rw [List.length_take] at hi
      rw [List.getElem_take]
      exact hne i (by omega) (by omega)
    · obtain ⟨i, hi, rfl⟩ := List.getElem_of_mem he
      rw [List.length_drop] at hi
      rw [List.getElem_drop]
      exact hne _ (by omega) (by omega)
  have h2 : mdel (waitsL L x) L[k].b = waitsL (L.take k ++ L.drop (k + 1)) x := by
    have h3 : ∀ (M : List Ent), (∀ e ∈ M, e.b ≠ L[k].b) → mdel (waitsL M x) L[k].b = waitsL M x := fun M hM => mdel_none (fun p hp => by
      obtain ⟨e, he, h4, _⟩ := waits_mem hp
      rw [← h4]; exact hM e he)
    have h5 : mdel (waitsL [L[k]] x) L[k].b = [] := by
      unfold mdel waitsL
      rw [List.filter_eq_nil_iff]
      intro p hp
      obtain ⟨e, he, rfl⟩ := List.mem_map.1 hp
      rw [List.mem_singleton.1 (List.mem_filter.1 he).1]
      simp
    have h6 : ∀ M N : List Ent, waitsL (M ++ N) x = waitsL M x ++ waitsL N x := fun M N => by unfold waitsL; rw [List.filter_append, List.map_append]
    have h7 : ∀ M N : List (Nat × Int), mdel (M ++ N) L[k].b = mdel M L[k].b ++ mdel N L[k].b := fun M N => by unfold mdel; rw [List.filter_append]
    have hw : waitsL L x = waitsL (L.take k ++ ([L[k]] ++ L.drop (k + 1))) x := congrArg (fun l => waitsL l x) hsplit
    rw [hw, h6, h6, h7, h7, h5, h3 _ (fun e he => h1 e (List.mem_append_left _ he)), h3 _ (fun e he => h1 e (List.mem_append_right _ he)), h6]
    rfl
  unfold rmF
  rw [List.eraseIdx_eq_take_drop_succ]
  split
  · exact h2
  · rename_i hx
    rw [← h2]
    refine (mdel_none (fun p hp => ?_)).symm
    obtain ⟨e, he, h4, h5⟩ := waits_mem hp
    intro h6
    obtain ⟨i, hi, rfl⟩ := List.getElem_of_mem he
    by_cases hik : i = k
    · subst hik; exact hx h5
    · exact hne i hi hik (h4.trans h6)

theorem mdel_mem {K V : Type} [DecidableEq K] {M : List (K × V)} {x k : K} {v : V} : (k, v) ∈ mdel M x ↔ (k, v) ∈ M ∧ k ≠ x := by
  unfold mdel
  rw [List.mem_filter]
  simp
/-- A key is taken out of the map of those that wait. -/
theorem WM.del {w w' : World} {bw : Nat} {W : List (Key × Nat)} {F : Key → List (Nat × Int)} {x : Key} (h : WM w bw W F) (hd : MapT eK eM w' bw (mdel W x)) (hg : w.grownBy w' (some bw)) : WM w' bw (mdel W x) F := by
  have hb := grown_but hg
  refine ⟨hd, fun k m hm => (h.inn k m (mdel_mem.1 hm).1).but hb (h.out k m (mdel_mem.1 hm).1), ?_, fun k m hm => h.out k m (mdel_mem.1 hm).1⟩
  exact (List.filter_sublist.map _).nodup h.nv

/-- The state of Remove's range. -/
structure RemR (W6 wr : World) (p : Nat) (room turns : Int) (lv : Value) (bi bw : Nat) (L : List Ent) (nb : Nat) (W : List (Key × Nat)) (pre : List Key) (Wi : List (Key × Nat)) : Prop where
  wm : WM wr bw Wi (rmF L nb pre)
  sub : ∀ x m, (x, m) ∈ Wi → (x, m) ∈ W
  has : ∀ x, (∃ m, (x, m) ∈ Wi) ↔ rmF L nb pre x ≠ []
  but : But W6 wr (fun j => j = bw ∨ ∃ k, (k, j) ∈ W)
section
variable {W6 wr w' w2 : World} {p bi bw m nb : Nat} {room turns : Int} {lv : Value} {L : List Ent} {W Wi : List (Key × Nat)} {pre : List Key} {x : Key}
theorem RemR.below (h : RemR W6 wr p room turns lv bi bw L nb W pre Wi) (hb : Below wr.heap.size wr w') : RemR W6 w' p room turns lv bi bw L nb W pre Wi :=
  ⟨h.wm.below hb, h.sub, h.has, h.but.trans (But.of_below hb (fun _ => False)) (fun _ _ h => h.elim)⟩
theorem RemR.none_ (h : RemR W6 wr p room turns lv bi bw L nb W pre Wi) (hx : mget Wi x = none) : RemR W6 wr p room turns lv bi bw L nb W (pre ++ [x]) Wi := by
  have h0 : rmF L nb pre x = [] := Classical.byContradiction (fun q => by obtain ⟨m, hm⟩ := (h.has x).2 q; exact mget_no hx m hm)
  have h1 : ∀ k, rmF L nb (pre ++ [x]) k = rmF L nb pre k := fun k => by
    by_cases hk : k = x
    · subst hk; rw [← rmF_step, h0]; rfl
    · exact rmF_other L nb pre hk
  exact ⟨h.wm.congr (fun k => (h1 k).symm), h.sub, fun k => by rw [h1]; exact h.has k, h.but⟩
/-- What lies under a key loses the entry. -/
theorem RemR.set (h : RemR W6 wr p room turns lv bi bw L nb W pre Wi) (hx : (x, m) ∈ Wi) (hput : MapT eP eI w' m (rmF L nb (pre ++ [x]) x)) (hg : wr.grownBy w' (some m)) :
    WM w' bw Wi (rmF L nb (pre ++ [x])) ∧ But W6 w' (fun j => j = bw ∨ ∃ k, (k, j) ∈ W) := by
  refine ⟨(h.wm.set hx hput hg).congr (fun k => ?_), h.but.grown hg (fun i hi e => by cases e; exact .inr ⟨x, h.sub x m hx⟩)⟩
  by_cases hk : k = x
  · rw [if_pos hk, hk]
  · rw [if_neg hk, rmF_other L nb pre hk]
theorem RemR.keep (h : RemR W6 wr p room turns lv bi bw L nb W pre Wi) (hx : (x, m) ∈ Wi) (hs : WM w' bw Wi (rmF L nb (pre ++ [x])) ∧ But W6 w' (fun j => j = bw ∨ ∃ k, (k, j) ∈ W)) (hne : rmF L nb (pre ++ [x]) x ≠ []) :
    RemR W6 w' p room turns lv bi bw L nb W (pre ++ [x]) Wi := by
  refine ⟨hs.1, h.sub, fun k => ?_, hs.2⟩
  by_cases hk : k = x
  · subst hk; exact ⟨fun _ => hne, fun _ => ⟨m, hx⟩⟩
  · rw [rmF_other L nb pre hk]; exact h.has k
theorem RemR.drop (h : RemR W6 wr p room turns lv bi bw L nb W pre Wi) (hs : WM w' bw Wi (rmF L nb (pre ++ [x])) ∧ But W6 w' (fun j => j = bw ∨ ∃ k, (k, j) ∈ W)) (h0 : rmF L nb (pre ++ [x]) x = [])
    (hd : MapT eK eM w2 bw (mdel Wi x)) (hg : w'.grownBy w2 (some bw)) : RemR W6 w2 p room turns lv bi bw L nb W (pre ++ [x]) (mdel Wi x) := by
  refine ⟨hs.1.del hd hg, fun k m hm => h.sub k m (mdel_mem.1 hm).1, fun k => ?_, hs.2.grown hg (fun i _ e => by cases e; exact .inl rfl)⟩
  by_cases hk : k = x
  · subst hk
    exact ⟨fun ⟨m, hm⟩ => absurd rfl (mdel_mem.1 hm).2, fun q => absurd h0 q⟩
  · rw [rmF_other L nb pre hk, ← h.has k]
    exact ⟨fun ⟨m, hm⟩ => ⟨m, (mdel_mem.1 hm).1⟩, fun ⟨m, hm⟩ => ⟨m, mdel_mem.2 ⟨hm, hk⟩⟩⟩
end
theorem delNil (w : World) (b : Nat) (ty : TypeId) : (Builtin.delete_ #[74, 63] ty #[.map none, .pointer (some ⟨b, 0, none⟩)]).run Tryd.prog w = .ok (.tuple #[]) w := by
  have h := checkKeyP true 9999 w b
  unfold eP at h
  have h' : (Instr.checkKey true 10000 63 (.pointer (some ⟨b, 0, none⟩))).run Tryd.prog w = .ok () w := h
  simp [Builtin.delete_, run_underlying Tryd.underlying74, h', Result.andThen]
end Go.Proofs.YtmcknfpohnobdaaDoor
