/- StorePrunes: plain laws. -/
import Derived.Test.YtflkddllofeiaaaDoorAb
import Derived.Test.YtflkddllofeiaaaDoorPrune
namespace Go.Proofs.YtflkddllofeiaaaDoor
set_option linter.unusedSimpArgs false
set_option linter.unusedVariables false

def prq (o : Int) (ks : List Key) (q : Key × List VerS) : Key × List VerS := if q.1 ∈ ks then (q.1, pruneL q.2 o) else q
theorem prq_fst (o : Int) (ks : List Key) (q : Key × List VerS) : (prq o ks q).1 = q.1 := by unfold prq; split <;> rfl
theorem prq_not {o : Int} {ks : List Key} {q : Key × List VerS} (h : q.1 ∉ ks) : prq o ks q = q := if_neg h
theorem prq_keys (o : Int) (ks : List Key) (M : List (Key × List VerS)) : (M.map (prq o ks)).map (·.1) = M.map (·.1) := by
  rw [List.map_map]
  exact List.map_congr_left (fun q _ => prq_fst o ks q)
theorem prR_map {M : List (Key × List VerS)} (hn : (M.map (·.1)).Nodup) (k : Key) (o : Int) : prR M k o = M.map (prq o [k]) := by
  unfold prR
  rcases mget_cases hn k with ⟨h1, h2⟩ | ⟨u, a, c, h1, rfl, h3, h4⟩
  · rw [h1]
    simp only [Option.isSome_none, Bool.false_eq_true, if_false]
    conv => lhs; rw [← List.map_id M]
    refine List.map_congr_left (fun q hq => ?_)
    unfold prq
    rw [if_neg (by simpa using h2 q hq)]
    rfl
  · have hg : getR (a ++ (k, u) :: c) k = u := by unfold getR; rw [h1]; rfl
    rw [h1, hg, mput_some h3 h4]
    simp only [Option.isSome_some, if_true, List.map_append, List.map_cons]
    have ha : ∀ l : List (Key × List VerS), (∀ p ∈ l, p.1 ≠ k) → l.map (prq o [k]) = l := fun l hl => by
      conv => rhs; rw [← List.map_id l]
      refine List.map_congr_left (fun q hq => ?_)
      unfold prq
      rw [if_neg (by simpa using hl q hq)]
      rfl
    rw [ha a h3, ha c h4]
    simp [prq]
theorem prq_snoc {M : List (Key × List VerS)} (hn : (M.map (·.1)).Nodup) (o : Int) (ks : List Key) {k : Key} (hk : k ∉ ks) : prR (M.map (prq o ks)) k o = M.map (prq o (ks ++ [k])) := by
  rw [prR_map (by rw [prq_keys]; exact hn), List.map_map]
  refine List.map_congr_left (fun q _ => ?_)
  simp only [Function.comp]
  have h1 := prq_fst o ks q
  by_cases h : q.1 = k
  · have h2 : q.1 ∉ ks := h ▸ hk
    unfold prq
    rw [if_neg h2, if_pos (by simp [h]), if_pos (by simp [h])]
  · have h3 : ¬ (prq o ks q).1 ∈ [k] := by rw [h1]; simpa using h
    rw [prq_not h3]
    unfold prq
    have : q.1 ∈ ks ++ [k] ↔ q.1 ∈ ks := by simp [h]
    by_cases h5 : q.1 ∈ ks
    · rw [if_pos h5, if_pos (this.2 h5)]
    · rw [if_neg h5, if_neg (fun h6 => h5 (this.1 h6))]
theorem mget_map {M : List (Key × List VerS)} {f : Key × List VerS → Key × List VerS} (hf : ∀ q, (f q).1 = q.1) (k : Key) : mget (M.map f) k = (M.find? (fun p => decide (p.1 = k))).map (fun q => (f q).2) := by
  unfold mget
  induction M with
  | nil => rfl
  | cons q M ih =>
    rw [List.map_cons, List.find?_cons, List.find?_cons, hf]
    by_cases h : q.1 = k
    · simp [h]
    · simp only [h, decide_false]
      exact ih
theorem getR_prq {M : List (Key × List VerS)} (hn : (M.map (·.1)).Nodup) (o : Int) (ks : List Key) (k : Key) : getR (M.map (prq o ks)) k = if k ∈ ks then pruneL (getR M k) o else getR M k := by
  have h1 := mget_map (M := M) (prq_fst o ks) k
  unfold getR
  rw [h1]
  rcases mget_cases hn k with ⟨h2, h3⟩ | ⟨u, a, c, h2, rfl, h4, h5⟩
  · rw [h2]
    have : M.find? (fun p => decide (p.1 = k)) = none := List.find?_eq_none.2 (fun q hq => by simpa using h3 q hq)
    rw [this]
    have h0 : pruneL ([] : List VerS) o = [] := by rw [pruneL_eq]; rfl
    simp [h0]
  · have h6 : (a ++ (k, u) :: c).find? (fun p => decide (p.1 = k)) = some (k, u) := by
      rw [List.find?_append, List.find?_eq_none.2 (fun q hq => by simpa using h4 q hq)]
      simp
    rw [h6, h2]
    unfold prq
    by_cases hk : k ∈ ks <;> simp [hk]
/-- All keys gone through. -/
theorem getR_all {M : List (Key × List VerS)} (hn : (M.map (·.1)).Nodup) (o : Int) {ks : List Key} (hp : ks.Perm (M.map (·.1))) (k : Key) : getR (M.map (prq o ks)) k = pruneL (getR M k) o := by
  rw [getR_prq hn]
  by_cases hk : k ∈ ks
  · rw [if_pos hk]
  · rw [if_neg hk]
    have : getR M k = [] := by
      unfold getR
      rw [mget_none (fun q hq e => hk (hp.mem_iff.2 (List.mem_map.2 ⟨q, hq, e⟩)))]
      rfl
    rw [this, pruneL_eq]; rfl
/-! ### versions above a number, and the calls that put them -/
def gtN (L : List VerS) (o : Int) : Nat := (L.filter (fun x => decide (o < x.n))).length
def isPut (k : Key) (o : Int) (c : CallV) : Bool := decide (c.kind = 0) && (decide (c.key = k) && decide (o < c.n))
def cntP (cs : List CallV) (k : Key) (o : Int) : Nat := (cs.filter (isPut k o)).length
theorem gtN_leN (L : List VerS) (o : Int) : leN L o + gtN L o = L.length := by
  unfold leN gtN
  induction L with
  | nil => rfl
  | cons x L ih =>
    by_cases h : x.n ≤ o
    · have h2 : ¬ o < x.n := by omega
      simp only [List.filter_cons, h, h2, decide_true, decide_false, if_true, List.length_cons]
      simp
      omega
    · have h2 : o < x.n := by omega
      simp only [List.filter_cons, h, h2, decide_true, decide_false, if_true, List.length_cons]
      simp
      omega
theorem prune_gt (L : List VerS) (o : Int) : (pruneL L o).length ≤ 1 + gtN L o := by
  have h1 := gtN_leN L o
  rw [pruneL_eq, List.length_drop]
  omega
theorem gtN_prune (L : List VerS) (m o : Int) : gtN (pruneL L m) o ≤ gtN L o := by
  rw [pruneL_eq]
  exact ((List.drop_sublist _ L).filter _).length_le
theorem gtN_snoc (L : List VerS) (x : VerS) (o : Int) : gtN (L ++ [x]) o = gtN L o + if o < x.n then 1 else 0 := by
  unfold gtN
  rw [List.filter_append, List.length_append]
  congr 1
  by_cases h : o < x.n <;> simp [h]
theorem cntP_snoc (cs : List CallV) (c : CallV) (k : Key) (o : Int) : cntP (cs ++ [c]) k o = cntP cs k o + if isPut k o c then 1 else 0 := by
  unfold cntP
  rw [List.filter_append, List.length_append]
  congr 1
  cases h : isPut k o c <;> simp [h]
/-- What the calls of a script leave: rows that aren't empty, rising; above a number no more than was put. -/
structure GoodA (A : AbS) (cs : List CallV) : Prop where
  bnd : BndA A cs.length
  ne : ∀ q ∈ A.rows, 0 < q.2.length
  gt : ∀ k o, gtN (getR A.rows k) o ≤ cntP cs k o
theorem getR_put {M : List (Key × List VerS)} (hn : (M.map (·.1)).Nodup) (k k' : Key) (L : List VerS) : getR (mput M k L) k' = if k' = k then L else getR M k' := by
  unfold getR
  rcases mget_cases hn k with ⟨h1, h2⟩ | ⟨u, a, c, h1, rfl, h3, h4⟩
  · rw [mput_none h2]
    by_cases h : k' = k
    · subst h
      rw [if_pos rfl, show M ++ [(k', L)] = M ++ (k', L) :: [] from rfl, mget_some h2]; rfl
    · rw [if_neg h]
      have hn2 : ((M ++ [(k, L)]).map (·.1)).Nodup := by
        have := mput_keys (x := k) (v := L) hn
        rwa [mput_none h2] at this
      rcases mget_cases hn k' with ⟨h5, h6⟩ | ⟨u, a, c, h5, rfl, h7, h8⟩
      · rw [h5, mget_none (fun p hp => by
          rcases List.mem_append.1 hp with hp | hp
          · exact h6 p hp
          · rw [List.mem_singleton.1 hp]; exact fun e => h e.symm)]
      · rw [h5, mget_of_mem hn2 (v := u) (by simp)]
  · rw [mput_some h3 h4]
    by_cases h : k' = k
    · subst h
      rw [if_pos rfl, mget_some h3]; rfl
    · rw [if_neg h]
      have hn2 : ((a ++ (k, L) :: c).map (·.1)).Nodup := by simpa using hn
      rcases mget_cases hn k' with ⟨h5, h6⟩ | ⟨u', a', c', h5, h6, h7, h8⟩
      · rw [h5, mget_none (fun p hp => by
          rcases List.mem_append.1 hp with hp | hp
          · exact h6 p (List.mem_append_left _ hp)
          · rcases List.mem_cons.1 hp with rfl | hp
            · exact fun e => h e.symm
            · exact h6 p (List.mem_append_right _ (List.mem_cons_of_mem _ hp)))]
      · have hm := mget_mem h5
        rw [h5, mget_of_mem hn2 (v := u') (by
          rcases List.mem_append.1 hm with hm | hm
          · exact List.mem_append_left _ hm
          · rcases List.mem_cons.1 hm with e | hm
            · exact absurd (congrArg Prod.fst e) h
            · exact List.mem_append_right _ (List.mem_cons_of_mem _ hm))]
theorem mput_mem {M : List (Key × List VerS)} {k : Key} {L : List VerS} {q : Key × List VerS} (h : q ∈ mput M k L) : q = (k, L) ∨ q ∈ M := by
  unfold mput at h
  split at h
  · obtain ⟨p, hp, rfl⟩ := List.mem_map.1 h
    split
    · exact .inl rfl
    · exact .inr hp
  · rcases List.mem_append.1 h with h | h
    · exact .inr h
    · exact .inl (List.mem_singleton.1 h)
theorem GoodA.nil : GoodA ⟨[], [], 0⟩ [] := ⟨⟨Nat.le_refl _, Nat.le_refl _, Nat.le_refl _, List.nodup_nil⟩, (fun q hq => by cases hq), fun k o => Nat.zero_le _⟩
theorem GoodA.step {A : AbS} {cs : List CallV} (h : GoodA A cs) (c : CallV) : GoodA (stepA A c) (cs ++ [c]) := by
  have hcnt : ∀ k o, cntP cs k o ≤ cntP (cs ++ [c]) k o := fun k o => by rw [cntP_snoc]; omega
  have hb := h.bnd.step c
  refine ⟨by rw [List.length_append]; exact hb, ?_, ?_⟩
  · intro q hq
    unfold stepA at hq
    split at hq
    · have hq : q ∈ putR A.rows c.key c.n c.v := hq
      unfold putR at hq
      split at hq
      · rcases mput_mem hq with rfl | hq
        · simp
        · exact h.ne q hq
      · exact h.ne q hq
    · split at hq
      · exact h.ne q hq
      · split at hq
        · exact h.ne q hq
        · split at hq
          · have hq : q ∈ prR A.rows c.key (minL c.n A.R) := hq
            unfold prR at hq
            split at hq
            · rename_i hs
              rcases mput_mem hq with rfl | hq
              · show 0 < (pruneL _ _).length
                have h1 := prune_nil (getR A.rows c.key) (minL c.n A.R)
                have h2 : 0 < (getR A.rows c.key).length := by
                  obtain ⟨v, hv⟩ := Option.isSome_iff_exists.1 hs
                  have := h.ne _ (mget_mem hv)
                  unfold getR
                  rw [hv]
                  exact this
                omega
              · exact h.ne q hq
            · exact h.ne q hq
          · exact h.ne q hq
  · intro k o
    unfold stepA
    split
    · rename_i h0
      show gtN (getR (putR A.rows c.key c.n c.v) k) o ≤ _
      unfold putR
      split
      · rw [getR_put h.bnd.nd]
        split
        · rename_i hk
          subst hk
          rw [gtN_snoc, cntP_snoc]
          have h1 := h.gt c.key o
          by_cases ho : o < c.n
          · have : isPut c.key o c = true := by simp [isPut, h0, ho]
            simp [this, ho]
            omega
          · simp [ho]
            omega
        · exact Nat.le_trans (h.gt k o) (hcnt k o)
      · exact Nat.le_trans (h.gt k o) (hcnt k o)
    · split
      · exact Nat.le_trans (h.gt k o) (hcnt k o)
      · split
        · exact Nat.le_trans (h.gt k o) (hcnt k o)
        · split
          · show gtN (getR (prR A.rows c.key (minL c.n A.R)) k) o ≤ _
            unfold prR
            split
            · rw [getR_put h.bnd.nd]
              split
              · rename_i hk
                subst hk
                exact Nat.le_trans (gtN_prune _ _ _) (Nat.le_trans (h.gt c.key o) (hcnt c.key o))
              · exact Nat.le_trans (h.gt k o) (hcnt k o)
            · exact Nat.le_trans (h.gt k o) (hcnt k o)
          · exact Nat.le_trans (h.gt k o) (hcnt k o)
/-- The number above. -/
def aboveN (ks : List Key) (cs : List CallV) (o : Int) : Nat := (ks.map (fun k => cntP cs k o)).sum
theorem aboveN_app (ks : List Key) (k : Key) (cs : List CallV) (o : Int) : aboveN (ks ++ [k]) cs o = aboveN ks cs o + cntP cs k o := by unfold aboveN; simp
theorem sum_zero {α : Type} {f : α → Nat} : ∀ l : List α, (∀ x ∈ l, f x = 0) → (l.map f).sum = 0
  | [], _ => rfl
  | x :: l, h => by
    rw [List.map_cons, List.sum_cons, h x (by simp), sum_zero l (fun y hy => h y (List.mem_cons_of_mem _ hy))]
def hitsN (ks : List Key) (c : CallV) (o : Int) : Nat := (ks.map (fun k => if isPut k o c then 1 else 0)).sum
theorem aboveN_snoc (ks : List Key) (l : List CallV) (c : CallV) (o : Int) : aboveN ks (l ++ [c]) o = aboveN ks l o + hitsN ks c o := by
  unfold aboveN hitsN
  induction ks with
  | nil => rfl
  | cons k ks ih =>
    simp only [List.map_cons, List.sum_cons]
    rw [cntP_snoc, ih]
    omega
theorem hitsN_le {ks : List Key} (hn : ks.Nodup) (c : CallV) (o : Int) : hitsN ks c o ≤ 1 := by
  unfold hitsN
  induction ks with
  | nil => simp
  | cons k ks ih =>
    obtain ⟨h3, h4⟩ := List.nodup_cons.1 hn
    rw [List.map_cons, List.sum_cons]
    by_cases hk : isPut k o c = true
    · have hkk : c.key = k := by simp [isPut] at hk; exact hk.2.1
      have hz := sum_zero (f := fun k => if isPut k o c then 1 else 0) ks (fun k' hk' => by
        rw [if_neg]
        intro h5
        simp [isPut] at h5
        exact h3 (by rw [← hkk, h5.2.1]; exact hk'))
      rw [if_pos hk, hz]
      omega
    · rw [if_neg hk]
      have := ih h4
      omega
theorem aboveN_le {ks : List Key} (hn : ks.Nodup) (cs : List CallV) (o : Int) : aboveN ks cs o ≤ cs.length := by
  have key : ∀ cs' : List CallV, ∀ l, l ++ cs' = cs → aboveN ks l o ≤ l.length → aboveN ks cs o ≤ cs.length := by
    intro cs'
    induction cs' with
    | nil => intro l hl h; rw [List.append_nil] at hl; subst hl; exact h
    | cons c cs' ih =>
      intro l hl h
      refine ih (l ++ [c]) (by simpa using hl) ?_
      have h2 := hitsN_le hn c o
      rw [aboveN_snoc, List.length_append]
      simp only [List.length_cons, List.length_nil]
      omega
  exact key cs [] rfl (by unfold aboveN; rw [sum_zero (f := fun k => cntP [] k o) ks (fun k _ => rfl)]; exact Nat.zero_le _)
theorem total_prq {A : AbS} {cs : List CallV} (h : GoodA A cs) {ks : List Key} (hp : ks.Perm (A.rows.map (·.1))) (o : Int) : total (A.rows.map (prq o ks)) ≤ ks.length + aboveN ks cs o := by
  have hnd := h.bnd.nd
  have h1 : total (A.rows.map (prq o ks)) = (A.rows.map (fun q => (pruneL (getR A.rows q.1) o).length)).sum := by
    unfold total
    rw [List.map_map]
    congr 1
    refine List.map_congr_left (fun q hq => ?_)
    have hq2 : q.1 ∈ ks := hp.mem_iff.2 (List.mem_map.2 ⟨q, hq, rfl⟩)
    have hg : getR A.rows q.1 = q.2 := by unfold getR; rw [mget_of_mem hnd (v := q.2) hq]; rfl
    simp only [Function.comp, prq, if_pos hq2, hg]
  have h2 : (A.rows.map (fun q => (pruneL (getR A.rows q.1) o).length)).sum = (ks.map (fun k => (pruneL (getR A.rows k) o).length)).sum := by
    rw [show (A.rows.map (fun q => (pruneL (getR A.rows q.1) o).length)) = ((A.rows.map (·.1)).map (fun k => (pruneL (getR A.rows k) o).length)) by rw [List.map_map]; rfl]
    exact ((hp.map _).sum_nat).symm
  rw [h1, h2]
  unfold aboveN
  clear h1 h2 hp
  induction ks with
  | nil => simp
  | cons k ks ih =>
    have h3 := prune_gt (getR A.rows k) o
    have h4 := h.gt k o
    simp only [List.map_cons, List.sum_cons, List.length_cons]
    omega
theorem minL_le (n : Int) (R : List (Int × Int)) : minL n R ≤ n := by
  unfold minL
  induction R generalizing n with
  | nil => exact Int.le_refl _
  | cons q R ih =>
    rw [List.foldl_cons]
    have := ih (min n q.2)
    omega
end Go.Proofs.YtflkddllofeiaaaDoor
