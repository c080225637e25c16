/- Store: a key's place; a chain turned, a chain put in. -/
import Derived.Test.YtflkddllofeiaaaDoorS2
namespace Go.Proofs.YtflkddllofeiaaaDoor
set_option linter.unusedSimpArgs false
set_option linter.unusedVariables false
open Go.RowKit Go.MapKept Go.ChangeMaps Go.Maps

/-- The versions under each key. -/
def rowOf (q : Key × Ch) : Key × List VerS := (q.1, q.2.L)
def StV.rows (s : StV) : List (Key × List VerS) := s.chs.map rowOf
def getR (M : List (Key × List VerS)) (k : Key) : List VerS := (mget M k).getD []
theorem flat_set {α : Type} {S : List (List α)} {j : Nat} (hj : j < S.length) (l : List α) : (S.set j l).flatten = (S.take j).flatten ++ l ++ (S.drop (j + 1)).flatten := by
  rw [List.set_eq_take_append_cons_drop, if_pos hj, List.flatten_append, List.flatten_cons, List.append_assoc]
theorem flat_at {α : Type} {S : List (List α)} {j : Nat} (hj : j < S.length) : S.flatten = (S.take j).flatten ++ S[j] ++ (S.drop (j + 1)).flatten := by
  rw [← flat_set hj S[j], List.set_getElem_self]
theorem nodup_mid {α : Type} {P Q : List α} {x : α} : (P ++ x :: Q).Nodup ↔ x ∉ P ++ Q ∧ (P ++ Q).Nodup := by
  unfold List.Nodup
  rw [List.pairwise_middle (fun {_ _} h => Ne.symm h), List.pairwise_cons]
  exact ⟨fun h => ⟨fun hx => h.1 x hx rfl, h.2⟩, fun h => ⟨fun y hy e => h.1 (e ▸ hy), h.2⟩⟩
section
variable {w w' : World} {s : StV} {S : Nat → Prop}
/-- A key stands at one place, or nowhere. -/
theorem StAt.cases (h : StAt w s) (k : Key) :
    (∃ a c b P Q, s.S[s.sh k]'(h.sh_lt' k) = a ++ (k, c) :: b ∧ s.chs = P ++ (k, c) :: Q ∧ (∀ c', (s.S.set (s.sh k) (a ++ (k, c') :: b)).flatten = P ++ (k, c') :: Q) ∧ (∀ q ∈ a ++ b, q.1 ≠ k) ∧ (∀ q ∈ P ++ Q, q.1 ≠ k)) ∨
    (∃ P Q, s.chs = P ++ Q ∧ (∀ c', (s.S.set (s.sh k) (s.S[s.sh k]'(h.sh_lt' k) ++ [(k, c')])).flatten = P ++ (k, c') :: Q) ∧ (∀ q ∈ s.S[s.sh k]'(h.sh_lt' k), q.1 ≠ k) ∧ (∀ q ∈ P ++ Q, q.1 ≠ k)) := by
  have hj := h.sh_lt' k
  by_cases hk : ∃ q ∈ s.S[s.sh k], q.1 = k
  · obtain ⟨⟨k', c⟩, hq, rfl⟩ := hk
    obtain ⟨a, b, hab⟩ := List.append_of_mem hq
    have hfl : s.chs = ((s.S.take (s.sh k')).flatten ++ a) ++ (k', c) :: (b ++ (s.S.drop (s.sh k' + 1)).flatten) := by
      unfold StV.chs
      rw [flat_at hj, hab]
      simp
    have hkn := h.kn
    rw [hfl, List.map_append, List.map_cons, nodup_mid] at hkn
    have hno : ∀ q ∈ ((s.S.take (s.sh k')).flatten ++ a) ++ (b ++ (s.S.drop (s.sh k' + 1)).flatten), q.1 ≠ k' := fun q hq e => hkn.1 (by
      rw [← List.map_append]
      exact List.mem_map.2 ⟨q, hq, e⟩)
    refine .inl ⟨a, c, b, _, _, hab, hfl, fun c' => ?_, fun q hq => hno q ?_, hno⟩
    · rw [flat_set hj]; simp
    · rcases List.mem_append.1 hq with hq | hq
      · exact List.mem_append_left _ (List.mem_append_right _ hq)
      · exact List.mem_append_right _ (List.mem_append_left _ hq)
  · have hno : ∀ q ∈ s.S[s.sh k], q.1 ≠ k := fun q hq e => hk ⟨q, hq, e⟩
    refine .inr ⟨(s.S.take (s.sh k)).flatten ++ s.S[s.sh k], (s.S.drop (s.sh k + 1)).flatten, flat_at hj, fun c' => ?_, hno, fun q hq e => ?_⟩
    · rw [flat_set hj]; simp
    · have hfl := flat_at hj
      have hq2 : q ∈ s.chs := by
        show q ∈ s.S.flatten
        rw [hfl]
        exact hq
      obtain ⟨hi, hq3⟩ := h.of_chs hq2
      have hgo : ∀ (k' : Key) (hi : s.sh k' < s.S.length), q ∈ s.S[s.sh k']'hi → k' = k → q ∈ s.S[s.sh k]'hj := fun k' hi hm he => by subst he; exact hm
      exact hno q (hgo q.1 hi hq3 e) e
theorem apart_symm {x y : Key × Ch} (h : ∀ i, x.2.of i → ¬ y.2.of i) : ∀ i, y.2.of i → ¬ x.2.of i := fun i hy hx => h i hx hy
/-- A key's chain, whatever chain it is, apart from the other blocks of the store. -/
theorem StAt.ch_ne (h : StAt w s) {q : Key × Ch} (hq : q ∈ s.chs) {i : Nat} (hi : q.2.of i) : i ≠ s.p ∧ i ≠ s.gs ∧ i ≠ s.mr ∧ i ∉ s.ms := by
  have hc := h.chs q hq
  have hmap : ∀ {K V : Type} {ek : K → Value} {ev : V → Value} {m : Nat} {M : List (K × V)}, MapT ek ev w m M → i ≠ m := fun hm => by
    rcases hi with rfl | hi
    · exact blk_map_ne hc.blk hm
    · exact fun e => own_map_ne hc.row hm (e ▸ hi)
  refine ⟨?_, ?_, hmap h.rd, fun hm => ?_⟩
  · rcases hi with rfl | hi
    · exact blk_ne2 hc.blk h.blk (by decide)
    · exact fun e => own_blk_ne2 hc.row h.blk (by decide) (e ▸ hi)
  · rcases hi with rfl | hi
    · exact blk_ne2 hc.blk h.row (by decide)
    · exact fun e => own_blk_ne2 hc.row h.row (by decide) (e ▸ hi)
  · obtain ⟨j, hj, rfl⟩ := List.getElem_of_mem hm
    exact hmap (h.maps j hj (by rw [h.len]; exact hj)) rfl
/-- A chain turned. -/
theorem StAt.turned (h : StAt w s) {k : Key} {a b P Q : List (Key × Ch)} {c c' : Ch} (hs : s.S[s.sh k]'(h.sh_lt' k) = a ++ (k, c) :: b) (hc : s.chs = P ++ (k, c) :: Q) (hf : (s.S.set (s.sh k) (a ++ (k, c') :: b)).flatten = P ++ (k, c') :: Q)
    (hb : But w w' c.of) (hp : c'.p = c.p) (hch : Chn w' c'.p c'.sv c'.L) (hn : ∀ i, c'.of i → c.of i ∨ w.heap.size ≤ i) :
    StAt w' { s with S := s.S.set (s.sh k) (a ++ (k, c') :: b) } ∧ ∀ i, StV.of { s with S := s.S.set (s.sh k) (a ++ (k, c') :: b) } i → s.of i ∨ w.heap.size ≤ i := by
  have hchs : StV.chs { s with S := s.S.set (s.sh k) (a ++ (k, c') :: b) } = P ++ (k, c') :: Q := hf
  have hmem : (k, c) ∈ s.chs := by rw [hc]; simp
  have hold : ∀ q ∈ P ++ Q, q ∈ s.chs := fun q hq => by
    rw [hc]
    rcases List.mem_append.1 hq with hq | hq
    · exact List.mem_append_left _ hq
    · exact List.mem_append_right _ (List.mem_cons_of_mem _ hq)
  have hmid : ∀ q, q ∈ P ++ (k, c') :: Q → q = (k, c') ∨ q ∈ P ++ Q := fun q hq => by
    rcases List.mem_append.1 hq with hq | hq
    · exact .inr (List.mem_append_left _ hq)
    · rcases List.mem_cons.1 hq with hq | hq
      · exact .inl hq
      · exact .inr (List.mem_append_right _ hq)
  have hap := h.apart
  rw [hc, List.pairwise_middle (fun {_ _} h => apart_symm h), List.pairwise_cons] at hap
  have hne := fun i hi => h.ch_ne hmem (i := i) hi
  have hj := h.sh_lt' k
  have hother : ∀ q ∈ P ++ Q, Chn w' q.2.p q.2.sv q.2.L := fun q hq => (h.chs q (hold q hq)).but hb (fun i hi hci => hap.1 q hq i hci hi)
  refine ⟨⟨h.blk.but hb (fun hi => (hne _ hi).1 rfl), h.row.but hb (fun hi => (hne _ hi).2.1 rfl), h.n1, by rw [List.length_set]; exact h.len, fun i h1 h2 => ?_, h.msn, fun q hq => ?_, fun i hi q hq => ?_, ?_, ?_, h.rd.but hb (fun hi => (hne _ hi).2.2.1 rfl), h.rdn, h.rdk, h.mrn⟩, fun i hi => ?_⟩
  · have h2' : i < s.S.length := by simpa using h2
    have hm := (h.maps i h1 h2').but hb (fun hi => (hne _ hi).2.2.2 (List.getElem_mem h1))
    have he : (s.S.set (s.sh k) (a ++ (k, c') :: b))[i].map (fun q => (q.1, q.2.p)) = s.S[i].map (fun q => (q.1, q.2.p)) := by
      rw [List.getElem_set]
      split
      · rename_i e
        subst e
        rw [hs]
        simp [hp]
      · rfl
    rw [he]
    exact hm
  · rw [hchs] at hq
    rcases hmid q hq with rfl | hq
    · exact hch
    · exact hother q hq
  · have hi' : i < s.S.length := by simpa using hi
    rw [List.getElem_set] at hq
    split at hq
    · rename_i e
      subst e
      rcases List.mem_append.1 hq with hq | hq
      · exact h.shd _ hj q (by rw [hs]; exact List.mem_append_left _ hq)
      · rcases List.mem_cons.1 hq with rfl | hq
        · rfl
        · exact h.shd _ hj q (by rw [hs]; exact List.mem_append_right _ (List.mem_cons_of_mem _ hq))
    · exact h.shd i hi' q hq
  · have hkn := h.kn
    rw [hc] at hkn
    rw [hchs]
    simpa using hkn
  · rw [hchs, List.pairwise_middle (fun {_ _} h => apart_symm h), List.pairwise_cons]
    refine ⟨fun q hq i hi hqi => ?_, hap.2⟩
    rcases hn i hi with h1 | h1
    · exact hap.1 q hq i h1 hqi
    · have := (h.chs q (hold q hq)).of_lt hqi; omega
  · rcases hi with hi | hi | hi | hi | ⟨q, hq, hi⟩
    · exact .inl (.inl hi)
    · exact .inl (.inr (.inl hi))
    · exact .inl (.inr (.inr (.inl hi)))
    · exact .inl (.inr (.inr (.inr (.inl hi))))
    · rw [hchs] at hq
      rcases hmid q hq with rfl | hq
      · exact (hn i hi).imp (fun h1 => .inr (.inr (.inr (.inr ⟨_, hmem, h1⟩)))) (fun h => h)
      · exact .inl (.inr (.inr (.inr (.inr ⟨q, hold q hq, hi⟩))))
theorem rows_turned {P Q : List (Key × Ch)} {k : Key} {c c' : Ch} (hno : ∀ q ∈ P ++ Q, q.1 ≠ k) : (P ++ (k, c') :: Q).map rowOf = mput ((P ++ (k, c) :: Q).map rowOf) k c'.L ∧ getR ((P ++ (k, c) :: Q).map rowOf) k = c.L := by
  have hP : ∀ q ∈ P.map rowOf, q.1 ≠ k := fun q hq => by
    obtain ⟨x, hx, rfl⟩ := List.mem_map.1 hq
    exact hno x (List.mem_append_left _ hx)
  have hQ : ∀ q ∈ Q.map rowOf, q.1 ≠ k := fun q hq => by
    obtain ⟨x, hx, rfl⟩ := List.mem_map.1 hq
    exact hno x (List.mem_append_right _ hx)
  constructor
  · rw [List.map_append, List.map_append, List.map_cons, List.map_cons]
    exact (mput_some hP hQ).symm
  · unfold getR
    rw [List.map_append, List.map_cons]
    rw [show rowOf (k, c) = (k, c.L) from rfl, mget_some hP]
    rfl
theorem rows_none {P Q : List (Key × Ch)} {k : Key} {c' : Ch} (hno : ∀ q ∈ P ++ Q, q.1 ≠ k) : ((P ++ (k, c') :: Q).map rowOf).Perm (mput ((P ++ Q).map rowOf) k c'.L) ∧ getR ((P ++ Q).map rowOf) k = [] := by
  have hPQ : ∀ q ∈ (P ++ Q).map rowOf, q.1 ≠ k := fun q hq => by
    obtain ⟨x, hx, rfl⟩ := List.mem_map.1 hq
    exact hno x hx
  constructor
  · rw [mput_none hPQ, List.map_append, List.map_append, List.map_cons]
    exact List.perm_middle.trans (List.perm_append_singleton _ _).symm
  · unfold getR
    rw [mget_none hPQ]
    rfl
end
end Go.Proofs.YtflkddllofeiaaaDoor
