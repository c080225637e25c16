/- What slices.SortFunc leaves of an own row (no program in it). -/
import Derived.Test.YtflkddllofeiaaaGreatDoorBase
import Derived.Test.YtflkddllofeiaaaGreatDoorList
import Derived.Shelf.GgSortFunc.InsertionK
namespace Go.Proofs.YtflkddllofeiaaaGreatDoor
set_option linter.unusedSimpArgs false
set_option linter.unusedVariables false
open Go.RowKit Go.Sort

theorem flatK_list {α : Type} [Inhabited α] (enc : α → List Value) (k : Nat) (hk : ∀ x, (enc x).length = k) (l : List α) : (flatK enc k l.toArray).toList = l.flatMap enc := by
  have hlen : (flatK enc k l.toArray).toList.length = (l.flatMap enc).length := by
    rw [flat_length hk]; simp
  refine List.ext_getElem hlen (fun t h1 h2 => ?_)
  have ht : t < l.length * k := by simpa using h1
  have k0 : 0 < k := by
    rcases Nat.eq_zero_or_pos k with h | h
    · subst h; simp at ht
    · exact h
  have hi : t / k < l.length := Nat.div_lt_of_lt_mul (by rwa [Nat.mul_comm] at ht)
  have hj : t % k < k := Nat.mod_lt _ k0
  have h3 := flat_get hk l (t / k) (t % k) hj hi
  rw [show t / k * k + t % k = t by rw [Nat.mul_comm]; exact Nat.div_add_mod t k, List.getElem?_eq_getElem h2] at h3
  have h4 : (flatK enc k l.toArray)[t]! = (enc l.toArray[t / k]!)[t % k]! := get_flatK enc k l.toArray t (by simpa using ht)
  have h5 : (flatK enc k l.toArray).toList[t] = (flatK enc k l.toArray)[t]! := by
    rw [getElem!_pos _ t (by simpa using ht)]
    simp
  have h6 : l.toArray[t / k]! = l[t / k] := by simp [hi]
  rw [h5, h4, h6]
  have h7 : (enc l[t / k])[t % k]? = some (enc l[t / k])[t % k]! := by
    rw [List.getElem?_eq_getElem (by rw [hk]; exact hj), List.getElem!_eq_getElem?_getD, List.getElem?_eq_getElem (by rw [hk]; exact hj)]
    rfl
  rw [h7] at h3
  exact (Option.some.inj h3).symm
theorem own_holds {α : Type} [Inhabited α] {enc : α → List Value} {k : Nat} (hk : ∀ x, (enc x).length = k) {w : World} {base g c : Nat} {e : TypeId} {l : List α}
    (h : w.ownsRow base e k (.slice (some ⟨g, 0, none⟩) l.length c) l.length (l.flatMap enc)) : HoldsK enc k w g 0 l.toArray := by
  intro j hj
  have hj' : j < l.length * k := by simpa using hj
  rcases h.2 with ⟨h1, _⟩ | ⟨g', cap, cur, hv, hb, hh, hn, hc, hs, ht⟩
  · injection h1 with h1 _ _; cases h1
  · injection hv with h1 _ _
    injection h1 with h1
    injection h1 with h1
    subst h1
    have hB : Blk w g e cur := hh
    refine ⟨?_, by rw [Nat.zero_add]; exact hB.frozen j⟩
    rw [Nat.zero_add, hB.cell j]
    have h2 : cur.toList[j]? = (l.flatMap enc)[j]? := by
      rw [← ht, List.getElem?_take, if_pos hj']
    have h3 := flatK_list enc k hk l
    rw [← h3] at h2
    have h4 : (flatK enc k l.toArray).toList[j]? = some (flatK enc k l.toArray)[j]! := by
      rw [getElem!_pos _ j (by simpa using hj')]
      simp [hj']
    rw [h4] at h2
    simpa using h2
/-- The row behind the sort; all else as it was. -/
theorem own_sorted {α : Type} [Inhabited α] {enc : α → List Value} {k : Nat} (hk : ∀ x, (enc x).length = k) {w w' : World} {base g c n : Nat} {e : TypeId} {l l' : List α} {os : Array Obj} (h1 : ∀ x, ∀ v ∈ enc x, v.oneCell' = true)
    (h : w.ownsRow base e k (.slice (some ⟨g, 0, none⟩) l.length c) l.length (l.flatMap enc)) (hl : l'.length = l.length) (hw : w' = sortWorldK enc k w g 0 n l'.toArray os) :
    w'.ownsRow base e k (.slice (some ⟨g, 0, none⟩) l'.length c) l'.length (l'.flatMap enc) ∧ w'.os = w.os ∧ w'.tape = w.tape ∧ w'.output = w.output ∧ w.heap.size ≤ w'.heap.size ∧ ∀ i, i < w.heap.size → i ≠ g → w'.heap[i]? = w.heap[i]? := by
  have hsz : w'.heap.size = w.heap.size + os.size := by subst hw; simp [sortWorldK, grow, putRowK, putRow, mapBlock, Sort.ahead]
  have hblk : ∀ i, i < w.heap.size → w'.heap[i]? = (w.heap.modify g (onCells (putCells id 0 (flatK enc k l'.toArray))))[i]? := fun i hi => by
    subst hw
    simp only [sortWorldK, grow, putRowK, putRow, mapBlock, Sort.ahead]
    rw [Array.getElem?_append_left (by simpa using hi)]
  refine ⟨?_, by subst hw; rfl, by subst hw; rfl, by subst hw; rfl, by omega, fun i hi hn => ?_⟩
  · refine ⟨flat_length hk l', ?_⟩
    rcases h.2 with ⟨h1, _⟩ | ⟨g', cap, cur, hv, hb, hh, hn, hc, hs, ht⟩
    · injection h1 with h1 _ _; cases h1
    · injection hv with h1 h2 h3
      injection h1 with h1
      injection h1 with h1
      subst h1 h3
      refine .inr ⟨g, c, putCells id 0 (flatK enc k l'.toArray) cur, rfl, hb, ?_, by omega, hc, by simp [putCells, hs], ?_⟩
      · have hlt : g < w.heap.size := (Array.getElem?_eq_some_iff.1 hh).1
        rw [hblk g hlt, Array.getElem?_modify, if_pos rfl, hh]
        rfl
      · have hF := flatK_list enc k hk l'
        rw [← hF]
        have hFs : (flatK enc k l'.toArray).size = l'.length * k := by simp
        have hcs : l'.length * k ≤ cur.size := by rw [hs, hl]; exact Nat.mul_le_mul_right k hn
        refine List.ext_getElem (by simp [putCells]; omega) (fun t h1 h2 => ?_)
        have ht2 : t < l'.length * k := by simpa using h2
        rw [List.getElem_take]
        simp only [putCells, Array.getElem_toList, Array.getElem_mapIdx]
        rw [if_pos ⟨Nat.zero_le _, by rw [hFs]; omega⟩]
        simp only [Nat.sub_zero, id]
        rw [getElem!_pos _ t (by rw [hFs]; exact ht2)]
  · rw [hblk i hi, Array.getElem?_modify, if_neg (fun e => hn e.symm)]
end Go.Proofs.YtflkddllofeiaaaGreatDoor
