/- What Touch does, in plain Lean. -/
import Derived.Test.YtmcknfpohnobdaaDoorQ2
namespace Go.Proofs.YtmcknfpohnobdaaDoor
set_option linter.unusedSimpArgs false
set_option linter.unusedVariables false

def Ent.hit (e : Ent) : Ent := if e.tkn then { e with tch := true } else { e with rdy := true }
def turnBy (L : List Ent) (P : Ent → Bool) : List Ent := L.map (fun e => if P e then e.hit else e)
def freshBy (L : List Ent) (P : Ent → Bool) : Nat := (L.filter (fun e => P e && (!e.tkn && !e.rdy))).length
def meets (a b : List Key) : Bool := a.any (fun k => decide (k ∈ b))
theorem hit_core (e : Ent) : e.hit.core = e.core := by unfold Ent.hit; split <;> rfl
theorem hit_hit (e : Ent) : e.hit.hit = e.hit := by
  unfold Ent.hit
  cases h : e.tkn <;> simp [h]
theorem hit_done (e : Ent) : (!e.hit.tkn && !e.hit.rdy) = false := by
  unfold Ent.hit
  cases h : e.tkn <;> simp [h]
theorem turnBy_core (L : List Ent) (P : Ent → Bool) : (turnBy L P).map Ent.core = L.map Ent.core := by
  unfold turnBy
  rw [List.map_map]
  refine List.map_congr_left (fun e _ => ?_)
  simp only [Function.comp]
  split
  · exact hit_core e
  · rfl
theorem turnBy_congr {L : List Ent} {P P' : Ent → Bool} (h : ∀ e ∈ L, P e = P' e) : turnBy L P = turnBy L P' ∧ freshBy L P = freshBy L P' := by
  refine ⟨List.map_congr_left (fun e he => by rw [h e he]), ?_⟩
  unfold freshBy
  congr 1
  exact List.filter_congr (fun e he => by rw [h e he])
theorem turnBy_get {L : List Ent} {P : Ent → Bool} {j : Nat} (hj : j < L.length) : (turnBy L P)[j]'(by unfold turnBy; simpa using hj) = if P L[j] then L[j].hit else L[j] := by unfold turnBy; simp
/-- One entry more. -/
theorem turnBy_one {L : List Ent} {P : Ent → Bool} (hn : (L.map (·.b)).Nodup) {j : Nat} (hj : j < L.length) {x : Ent} (hx : x = if P L[j] then L[j].hit else L[j]) :
    (turnBy L P).set j x.hit = turnBy L (fun e => P e || decide (e.b = L[j].b)) ∧ freshBy L (fun e => P e || decide (e.b = L[j].b)) = freshBy L P + (if (!x.tkn && !x.rdy) = true then 1 else 0) := by
  have key := List.pairwise_iff_getElem.1 hn
  have hne : ∀ i (hi : i < L.length), i ≠ j → L[i].b ≠ L[j].b := by
    intro i hi hij
    rcases Nat.lt_or_ge i j with h1 | h1
    · have h2 := key i j (by simpa using hi) (by simpa using hj) h1
      rw [List.getElem_map, List.getElem_map] at h2
      exact h2
    · have h2 := key j i (by simpa using hj) (by simpa using hi) (by omega)
      rw [List.getElem_map, List.getElem_map] at h2
      exact h2.symm
  have hxh : x.hit = L[j].hit := by
    rw [hx]; split
    · exact hit_hit _
    · rfl
  constructor
  · refine List.ext_getElem (by simp [turnBy]) (fun i h1 h2 => ?_)
    have hi : i < L.length := by simpa [turnBy] using h1
    rw [List.getElem_set, turnBy_get hi]
    split
    · rename_i q
      subst q
      rw [turnBy_get hi, hxh]
      simp
    · rename_i q
      have hd : decide (L[i].b = L[j].b) = false := decide_eq_false (hne i hi (fun h => q h.symm))
      rw [turnBy_get hi, hd, Bool.or_false]
  · obtain ⟨g, hg⟩ : ∃ g : Ent → Bool, g = fun e => (!e.tkn && !e.rdy) := ⟨_, rfl⟩
    have split : L = L.take j ++ L[j] :: L.drop (j + 1) := by rw [List.getElem_cons_drop, List.take_append_drop]
    have h1 : ∀ e ∈ L.take j, decide (e.b = L[j].b) = false := by
      intro e he
      obtain ⟨i, hi, rfl⟩ := List.getElem_of_mem he
      rw [List.length_take] at hi
      rw [List.getElem_take]
      exact decide_eq_false (hne i (by omega) (by omega))
    have h2 : ∀ e ∈ L.drop (j + 1), decide (e.b = L[j].b) = false := by
      intro e he
      obtain ⟨i, hi, rfl⟩ := List.getElem_of_mem he
      rw [List.length_drop] at hi
      rw [List.getElem_drop]
      exact decide_eq_false (hne _ (by omega) (by omega))
    have cnt : ∀ (Q : Ent → Bool), freshBy L Q = ((L.take j).filter (fun e => Q e && (!e.tkn && !e.rdy))).length + (if Q L[j] && (!L[j].tkn && !L[j].rdy) then 1 else 0) + ((L.drop (j + 1)).filter (fun e => Q e && (!e.tkn && !e.rdy))).length := by
      intro Q
      unfold freshBy
      conv => lhs; rw [split]
      rw [List.filter_append, List.length_append, List.filter_cons]
      split
      · simp only [List.length_cons]; omega
      · omega
    rw [cnt, cnt P]
    have e1 : (L.take j).filter (fun e => (P e || decide (e.b = L[j].b)) && (!e.tkn && !e.rdy)) = (L.take j).filter (fun e => P e && (!e.tkn && !e.rdy)) := List.filter_congr (fun e he => by rw [h1 e he, Bool.or_false])
    have e2 : (L.drop (j + 1)).filter (fun e => (P e || decide (e.b = L[j].b)) && (!e.tkn && !e.rdy)) = (L.drop (j + 1)).filter (fun e => P e && (!e.tkn && !e.rdy)) := List.filter_congr (fun e he => by rw [h2 e he, Bool.or_false])
    rw [e1, e2]
    have e3 : (if (P L[j] || decide (L[j].b = L[j].b)) && (!L[j].tkn && !L[j].rdy) then 1 else 0) = (if P L[j] && (!L[j].tkn && !L[j].rdy) then 1 else 0) + (if (!x.tkn && !x.rdy) = true then 1 else 0 : Nat) := by
      rw [hx]
      cases hp : P L[j]
      · simp
      · have := hit_done L[j]
        simp [this]
    rw [e3]
    omega
/-- Who is turned behind the keys ahead and, of key k's, all but who is left. -/
def ahead (pre : List Key) (k : Key) (left : List (Nat × Int)) (e : Ent) : Bool := meets e.keys pre || (decide (k ∈ e.keys) && !(left.any (fun q => decide (q.1 = e.b))))
theorem meets_nil (a : List Key) : meets a [] = false := by unfold meets; simp
theorem meets_snoc (a pre : List Key) (k : Key) : meets a (pre ++ [k]) = (meets a pre || decide (k ∈ a)) := by
  unfold meets
  rw [Bool.eq_iff_iff]
  simp only [List.any_eq_true, decide_eq_true_eq, List.mem_append, List.mem_singleton, Bool.or_eq_true]
  constructor
  · rintro ⟨x, hx, h | rfl⟩
    · exact .inl ⟨x, hx, h⟩
    · exact .inr hx
  · rintro (⟨x, hx, h⟩ | h)
    · exact ⟨x, hx, .inl h⟩
    · exact ⟨k, h, .inr rfl⟩
theorem ahead_start {L : List Ent} (pre : List Key) (k : Key) : ∀ e ∈ L, meets e.keys pre = ahead pre k (waitsL L k) e := by
  intro e he
  unfold ahead
  by_cases hk : k ∈ e.keys
  · have : (waitsL L k).any (fun q => decide (q.1 = e.b)) = true := List.any_eq_true.2 ⟨(e.b, (e.keys.count k : Int)), List.mem_map.2 ⟨e, List.mem_filter.2 ⟨he, by simpa using hk⟩, rfl⟩, by simp⟩
    rw [this]; simp
  · rw [decide_eq_false hk]; simp
theorem ahead_end {L : List Ent} (pre : List Key) (k : Key) : ∀ e ∈ L, ahead pre k [] e = meets e.keys (pre ++ [k]) := by
  intro e _
  rw [meets_snoc]
  unfold ahead
  simp
theorem ahead_step {L : List Ent} {pre : List Key} {k : Key} {a d : List (Nat × Int)} {b : Nat} {c : Int} (hn : ((a ++ (b, c) :: d).map (·.1)).Nodup) {e0 : Ent} (hb : e0.b = b) (hk : k ∈ e0.keys) (hu : ∀ e ∈ L, e.b = b → e = e0) :
    ∀ e ∈ L, (ahead pre k (a ++ (b, c) :: d) e || decide (e.b = e0.b)) = ahead pre k (a ++ d) e := by
  intro e he
  unfold ahead
  by_cases h : e.b = b
  · have h0 := hu e he h
    subst h0
    have hnot : (a ++ d).any (fun q => decide (q.1 = e.b)) = false := by
      rw [List.any_eq_false]
      intro q hq hd
      have hq1 : q.1 = b := by rw [← hb]; exact of_decide_eq_true hd
      rw [List.map_append, List.map_cons, List.nodup_append] at hn
      obtain ⟨_, h2, h3⟩ := hn
      rcases List.mem_append.1 hq with hq | hq
      · exact h3 q.1 (List.mem_map.2 ⟨q, hq, rfl⟩) b (by simp) hq1
      · exact (List.nodup_cons.1 h2).1 (hq1 ▸ List.mem_map.2 ⟨q, hq, rfl⟩)
    rw [hnot]
    simp [hk]
  · have hd : decide (e.b = e0.b) = false := decide_eq_false (by rw [hb]; exact h)
    have hbe : decide (b = e.b) = false := decide_eq_false (fun q => h q.symm)
    rw [hd, Bool.or_false, List.any_append, List.any_append, List.any_cons, hbe, Bool.false_or]
theorem waits_nodup {L : List Ent} (h : (L.map (·.b)).Nodup) (k : Key) : ((waitsL L k).map (·.1)).Nodup := by
  unfold waitsL
  rw [List.map_map]
  exact (List.filter_sublist.map _).nodup h
theorem waits_mem {L : List Ent} {k : Key} {q : Nat × Int} (h : q ∈ waitsL L k) : ∃ e ∈ L, e.b = q.1 ∧ k ∈ e.keys := by
  obtain ⟨e, he, rfl⟩ := List.mem_map.1 h
  obtain ⟨h1, h2⟩ := List.mem_filter.1 he
  exact ⟨e, h1, rfl, by simpa using h2⟩
end Go.Proofs.YtmcknfpohnobdaaDoor
