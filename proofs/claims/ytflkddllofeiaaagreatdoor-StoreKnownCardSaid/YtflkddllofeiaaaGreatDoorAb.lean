/- Store: what its calls do, in plain Lean: rows of keys with their versions. -/
import Derived.Test.YtflkddllofeiaaaGreatDoorS9
namespace Go.Proofs.YtflkddllofeiaaaGreatDoor
set_option linter.unusedSimpArgs false
set_option linter.unusedVariables false

structure AbS where
  rows : List (Key × List VerS)
  R : List (Int × Int)
  bg : Nat
structure CallV where
  on : Int
  kind : Int
  key : Key
  n : Int
  v : ByteArray
structure SaidV where
  v : ByteArray
  n : Int
  ok : Bool
def total (M : List (Key × List VerS)) : Nat := (M.map (fun q => q.2.length)).sum
def putR (M : List (Key × List VerS)) (k : Key) (n : Int) (v : ByteArray) : List (Key × List VerS) := if mayPut (getR M k) n then mput M k (getR M k ++ [⟨n, v⟩]) else M
def ansA (A : AbS) (ns : Nat) (c : CallV) : SaidV :=
  if c.kind = 0 then ⟨⟨#[]⟩, putE (getR A.rows c.key) c.n, true⟩
  else if c.kind = 1 then ⟨atV (getR A.rows c.key) c.n, 0, decide (0 < leN (getR A.rows c.key) c.n)⟩
  else if c.kind = 2 then ⟨lastV (getR A.rows c.key), lastM (getR A.rows c.key), decide (0 < (getR A.rows c.key).length)⟩
  else if c.kind = 4 then ⟨⟨#[]⟩, (A.bg : Int) + 1, false⟩
  else if c.kind = 5 then ⟨⟨#[]⟩, 0, (mget A.R c.n).isSome⟩
  else if c.kind = 6 then ⟨⟨#[]⟩, minL c.n A.R, false⟩
  else if c.kind = 7 then ⟨⟨#[]⟩, pruneN (getR A.rows c.key) (minL c.n A.R), false⟩
  else if c.kind = 8 then ⟨⟨#[]⟩, total A.rows, false⟩
  else ⟨⟨#[]⟩, ns, false⟩
def stepA (A : AbS) (c : CallV) : AbS :=
  if c.kind = 0 then { A with rows := putR A.rows c.key c.n c.v }
  else if c.kind = 4 then { A with R := A.R ++ [((A.bg : Int) + 1, c.n)], bg := A.bg + 1 }
  else if c.kind = 5 then { A with R := mdel A.R c.n }
  else if c.kind = 7 then { A with rows := prR A.rows c.key (minL c.n A.R) }
  else A
section
variable {K V : Type} [DecidableEq K] {M N : List (K × V)} {x : K} {u v : V}
theorem mget_mem (h : mget M x = some v) : (x, v) ∈ M := by
  unfold mget at h
  rw [Option.map_eq_some_iff] at h
  obtain ⟨p, h1, h2⟩ := h
  have h3 := List.mem_of_find?_eq_some h1
  have h4 := List.find?_some h1
  simp at h4
  obtain ⟨a, b⟩ := p
  simp at h2 h4
  subst h2 h4
  exact h3
omit [DecidableEq K] in
theorem mget_split (hn : (M.map (·.1)).Nodup) (h : (x, v) ∈ M) : ∃ a c, M = a ++ (x, v) :: c ∧ (∀ p ∈ a, p.1 ≠ x) ∧ ∀ p ∈ c, p.1 ≠ x := by
  obtain ⟨a, c, rfl⟩ := List.append_of_mem h
  rw [List.map_append, List.map_cons, nodup_mid] at hn
  refine ⟨a, c, rfl, fun p hp e => hn.1 ?_, fun p hp e => hn.1 ?_⟩
  · exact List.mem_append_left _ (List.mem_map.2 ⟨p, hp, e⟩)
  · exact List.mem_append_right _ (List.mem_map.2 ⟨p, hp, e⟩)
theorem mget_of_mem (hn : (M.map (·.1)).Nodup) (h : (x, v) ∈ M) : mget M x = some v := by
  obtain ⟨a, c, rfl, h1, _⟩ := mget_split hn h
  exact mget_some h1
theorem mget_cases (hn : (M.map (·.1)).Nodup) (x : K) : (mget M x = none ∧ ∀ p ∈ M, p.1 ≠ x) ∨ ∃ v a c, mget M x = some v ∧ M = a ++ (x, v) :: c ∧ (∀ p ∈ a, p.1 ≠ x) ∧ ∀ p ∈ c, p.1 ≠ x := by
  by_cases h : ∃ p ∈ M, p.1 = x
  · obtain ⟨⟨k, v⟩, hp, rfl⟩ := h
    obtain ⟨a, c, h1, h2, h3⟩ := mget_split hn hp
    exact .inr ⟨v, a, c, mget_of_mem hn hp, h1, h2, h3⟩
  · have h' : ∀ p ∈ M, p.1 ≠ x := fun p hp e => h ⟨p, hp, e⟩
    exact .inl ⟨mget_none h', h'⟩
theorem mget_perm (h : M.Perm N) (hn : (N.map (·.1)).Nodup) (x : K) : mget M x = mget N x := by
  have hm : (M.map (·.1)).Nodup := (h.map _).nodup_iff.2 hn
  rcases mget_cases hm x with ⟨h1, h2⟩ | ⟨v, a, c, h1, h2, _⟩
  · rw [h1, mget_none (fun p hp => h2 p (h.mem_iff.2 hp))]
  · rw [h1, mget_of_mem hn (h.mem_iff.1 (mget_mem h1))]
theorem mput_keys (hn : (M.map (·.1)).Nodup) : ((mput M x v).map (·.1)).Nodup := by
  rcases mget_cases hn x with ⟨h1, h2⟩ | ⟨u, a, c, h1, rfl, h3, h4⟩
  · rw [mput_none h2, List.map_append, List.nodup_append]
    refine ⟨hn, by simp, fun y hy z hz e => ?_⟩
    obtain ⟨p, hp, rfl⟩ := List.mem_map.1 hy
    simp only [List.map_cons, List.map_nil, List.mem_singleton] at hz
    exact h2 p hp (e.trans hz)
  · rw [mput_some h3 h4]
    simpa using hn
theorem mput_perm (h : M.Perm N) (hn : (N.map (·.1)).Nodup) : (mput M x v).Perm (mput N x v) := by
  have hm : (M.map (·.1)).Nodup := (h.map _).nodup_iff.2 hn
  rcases mget_cases hn x with ⟨h1, h2⟩ | ⟨u, a, c, h1, rfl, h3, h4⟩
  · rw [mput_none h2, mput_none (fun p hp => h2 p (h.mem_iff.1 hp))]
    exact h.append_right _
  · have h5 : (x, u) ∈ M := h.mem_iff.2 (by simp)
    obtain ⟨a', c', rfl, h6, h7⟩ := mget_split hm h5
    rw [mput_some h3 h4, mput_some h6 h7]
    have h8 : ((x, u) :: (a' ++ c')).Perm ((x, u) :: (a ++ c)) := List.perm_middle.symm.trans (h.trans List.perm_middle)
    exact List.perm_middle.trans (((List.perm_cons (x, u)).1 h8).cons _ |>.trans List.perm_middle.symm)
end
section
variable {M N : List (Key × List VerS)} {k : Key} {n m : Int} {v : ByteArray}
theorem getR_perm (h : M.Perm N) (hn : (N.map (·.1)).Nodup) (k : Key) : getR M k = getR N k := by unfold getR; rw [mget_perm h hn]
theorem total_perm (h : M.Perm N) : total M = total N := (h.map _).sum_nat
theorem putR_perm (h : M.Perm N) (hn : (N.map (·.1)).Nodup) : (putR M k n v).Perm (putR N k n v) := by
  unfold putR
  rw [getR_perm h hn]
  split
  · exact mput_perm h hn
  · exact h
theorem prR_perm (h : M.Perm N) (hn : (N.map (·.1)).Nodup) : (prR M k m).Perm (prR N k m) := by
  unfold prR
  rw [getR_perm h hn, mget_perm h hn]
  split
  · exact mput_perm h hn
  · exact h
theorem putR_keys (hn : (M.map (·.1)).Nodup) : ((putR M k n v).map (·.1)).Nodup := by
  unfold putR
  split
  · exact mput_keys hn
  · exact hn
theorem prR_keys (hn : (M.map (·.1)).Nodup) : ((prR M k m).map (·.1)).Nodup := by
  unfold prR
  split
  · exact mput_keys hn
  · exact hn
theorem total_app (a b : List (Key × List VerS)) : total (a ++ b) = total a + total b := by unfold total; simp
theorem total_cons (q : Key × List VerS) (b : List (Key × List VerS)) : total (q :: b) = q.2.length + total b := by unfold total; simp
theorem mput_total (hn : (M.map (·.1)).Nodup) (L : List VerS) : total (mput M k L) + (getR M k).length = total M + L.length ∧ (mput M k L).length ≤ M.length + 1 := by
  rcases mget_cases hn k with ⟨h1, h2⟩ | ⟨u, a, c, h1, rfl, h3, h4⟩
  · unfold getR
    rw [mput_none h2, h1, total_app, total_cons]
    simp [total]
  · unfold getR
    rw [mput_some h3 h4, h1]
    simp only [total_app, total_cons, Option.getD_some, List.length_append, List.length_cons]
    omega
theorem mput_len_some (hn : (M.map (·.1)).Nodup) (hs : (mget M k).isSome = true) (L : List VerS) : (mput M k L).length = M.length := by
  rcases mget_cases hn k with ⟨h1, h2⟩ | ⟨u, a, c, h1, rfl, h3, h4⟩
  · rw [h1] at hs; cases hs
  · rw [mput_some h3 h4]; simp
theorem getR_le (hn : (M.map (·.1)).Nodup) (k : Key) : (getR M k).length ≤ total M := by
  rcases mget_cases hn k with ⟨h1, h2⟩ | ⟨u, a, c, h1, rfl, h3, h4⟩
  · unfold getR; rw [h1]; simp
  · unfold getR
    rw [h1, total_app, total_cons]
    simp only [Option.getD_some]
    omega
end
structure BndA (A : AbS) (m : Nat) : Prop where
  t : total A.rows ≤ m
  r : A.rows.length ≤ m
  b : A.bg ≤ m
  nd : (A.rows.map (·.1)).Nodup
theorem BndA.step {A : AbS} {m : Nat} (h : BndA A m) (c : CallV) : BndA (stepA A c) (m + 1) := by
  have hm : BndA A (m + 1) := ⟨Nat.le_succ_of_le h.t, Nat.le_succ_of_le h.r, Nat.le_succ_of_le h.b, h.nd⟩
  unfold stepA
  split
  · refine ⟨?_, ?_, Nat.le_succ_of_le h.b, putR_keys h.nd⟩
    · show total (putR _ _ _ _) ≤ _
      unfold putR
      split
      · have := (mput_total (k := c.key) h.nd (getR A.rows c.key ++ [⟨c.n, c.v⟩])).1
        have := h.t
        simp only [List.length_append, List.length_cons, List.length_nil] at *
        omega
      · exact hm.t
    · show (putR _ _ _ _).length ≤ _
      unfold putR
      split
      · have := (mput_total (k := c.key) h.nd (getR A.rows c.key ++ [⟨c.n, c.v⟩])).2
        have := h.r
        omega
      · exact hm.r
  · split
    · exact ⟨hm.t, hm.r, Nat.succ_le_succ h.b, h.nd⟩
    · split
      · exact ⟨hm.t, hm.r, hm.b, h.nd⟩
      · split
        · refine ⟨?_, ?_, hm.b, prR_keys h.nd⟩
          · show total (prR _ _ _) ≤ _
            unfold prR
            split
            · have := (mput_total (k := c.key) h.nd (pruneL (getR A.rows c.key) (minL c.n A.R))).1
              have := pruneL_len (getR A.rows c.key) (minL c.n A.R)
              have := h.t
              omega
            · exact hm.t
          · show (prR _ _ _).length ≤ _
            unfold prR
            split
            · rename_i hs
              rw [mput_len_some h.nd hs]
              exact hm.r
            · exact hm.r
        · exact hm
/-- A store in memory and its rows. -/
structure Sim (s : StV) (A : AbS) : Prop where
  rows : s.rows.Perm A.rows
  R : s.R = A.R
  bg : s.bg = A.bg
theorem lens_rows (s : StV) : lens s.chs = total s.rows := by
  unfold lens total StV.rows
  rw [List.map_map]
  rfl
end Go.Proofs.YtflkddllofeiaaaGreatDoor
