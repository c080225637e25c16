/- Stores of numbers beside stores of texts: rows, in plain Lean. -/
import Derived.Test.YtflkddllofeiaaaGreatDoorI3
import Derived.Test.YtflkddllofeiaaaGreatDoorAsk
namespace Go.Proofs.YtflkddllofeiaaaGreatDoor
open Go.RowKit Go.MapKept Go.ChangeMaps Go.Maps
set_option linter.unusedVariables false
set_option linter.unusedSimpArgs false

/-- The number that stands for a text: its length. -/
def vI (x : VerS) : NI.VerS := ⟨x.n, x.v.size⟩
def mapI (L : List VerS) : List NI.VerS := L.map vI
def rowI (q : Key × List VerS) : Key × List NI.VerS := (q.1, mapI q.2)
theorem mapI_len (L : List VerS) : (mapI L).length = L.length := List.length_map _
theorem mapI_leN (L : List VerS) (n : Int) : leN (mapI L) n = leN L n := by
  unfold leN mapI
  rw [List.filter_map, List.length_map]
  rfl
theorem mapI_lastNo (L : List VerS) : lastNo (mapI L) = lastNo L := by
  unfold lastNo mapI
  rw [List.getLast?_map, Option.map_map]
  rfl
theorem mapI_mayPut (L : List VerS) (n : Int) : mayPut (mapI L) n = mayPut L n := by unfold mayPut; rw [mapI_lastNo]
theorem mapI_putE (L : List VerS) (n : Int) : putE (mapI L) n = putE L n := by unfold putE; rw [mapI_mayPut]
theorem mapI_pruneN (L : List VerS) (n : Int) : pruneN (mapI L) n = pruneN L n := by unfold pruneN; rw [mapI_leN]
theorem mapI_pruneL (L : List VerS) (n : Int) : pruneL (mapI L) n = mapI (pruneL L n) := by
  unfold pruneL
  rw [mapI_leN]
  split
  · rfl
  · unfold mapI; rw [List.map_drop]
theorem emptySize : ByteArray.empty.size = 0 := rfl
theorem mapI_atV (L : List VerS) (n : Int) : NI.atV (mapI L) n = ((atV L n).size : Int) := by
  unfold NI.atV atV
  rw [mapI_leN]
  split
  · rw [emptySize]; rfl
  · unfold mapI
    rw [List.getElem?_map]
    cases L[leN L n - 1]? with
    | none => rfl
    | some x => rfl
theorem mapI_lastV (L : List VerS) : NI.lastV (mapI L) = ((lastV L).size : Int) := by
  unfold NI.lastV lastV mapI
  rw [List.getLast?_map]
  cases L.getLast? with
  | none => rfl
  | some x => rfl
theorem mapI_lastM (L : List VerS) : NI.lastM (mapI L) = lastM L := by
  unfold NI.lastM lastM
  rw [mapI_lastNo, mapI_len]
theorem mgetI (M : List (Key × List VerS)) (k : Key) : mget (M.map rowI) k = (mget M k).map mapI := by
  unfold mget
  rw [List.find?_map, Option.map_map, Option.map_map]
  rfl
theorem getRI (M : List (Key × List VerS)) (k : Key) : NI.getR (M.map rowI) k = mapI (getR M k) := by
  unfold NI.getR getR
  rw [mgetI]
  cases mget M k <;> rfl
theorem mputI (M : List (Key × List VerS)) (k : Key) (L : List VerS) : mput (M.map rowI) k (mapI L) = (mput M k L).map rowI := by
  unfold mput
  rw [mgetI, Option.isSome_map]
  split
  · rw [List.map_map, List.map_map]
    apply List.map_congr_left
    intro q hq
    simp only [Function.comp]
    by_cases h : q.1 = k
    · rw [if_pos (show (rowI q).1 = k from h), if_pos h]; rfl
    · rw [if_neg (show ¬ (rowI q).1 = k from h), if_neg h]
  · rw [List.map_append]; rfl
theorem prRI (M : List (Key × List VerS)) (k : Key) (m : Int) : NI.prR (M.map rowI) k m = (prR M k m).map rowI := by
  unfold NI.prR prR
  rw [mgetI, Option.isSome_map, getRI, mapI_pruneL, mputI]
  split <;> rfl
theorem rowI_keys (M : List (Key × List VerS)) : (M.map rowI).map (·.1) = M.map (·.1) := by rw [List.map_map]; rfl
/-- A store of numbers in memory, beside the rows of texts. -/
structure SimI (u : NI.StV) (A : AbS) : Prop where
  rows : u.rows.Perm (A.rows.map rowI)
  R : u.R = A.R
  bg : u.bg = A.bg
section
variable {w w' : World} {u u' : NI.StV} {A : AbS}
theorem SimI.getR (h : SimI u A) (hn : (A.rows.map (·.1)).Nodup) (k : Key) : NI.getR u.rows k = mapI (getR A.rows k) := by
  have hn2 : ((A.rows.map rowI).map (·.1)).Nodup := by rw [rowI_keys]; exact hn
  unfold NI.getR
  rw [mget_perm h.rows hn2, mgetI]
  unfold Go.Proofs.YtflkddllofeiaaaGreatDoor.getR
  cases mget A.rows k <;> rfl
theorem lensI (u : NI.StV) : NI.lens u.chs = (u.rows.map (fun q => q.2.length)).sum := by
  unfold NI.lens NI.StV.rows
  rw [List.map_map]
  rfl
theorem SimI.total (h : SimI u A) : NI.lens u.chs = total A.rows := by
  rw [lensI, (h.rows.map _).sum_nat, List.map_map]
  unfold Go.Proofs.YtflkddllofeiaaaGreatDoor.total
  congr 1
  apply List.map_congr_left
  intro q hq
  exact mapI_len _
theorem SimI.keys (h : SimI u A) : (u.rows.map (·.1)).Perm (A.rows.map (·.1)) := by
  rw [← rowI_keys]; exact h.rows.map _
theorem SimI.put (h : SimI u A) (hnd : (A.rows.map (·.1)).Nodup) {c : CallV} (h0 : c.kind = 0) (hq : NI.PutS w w' u u' c.key c.n (c.v.size : Int)) : SimI u' (stepA A c) := by
  unfold stepA
  rw [if_pos h0]
  have hg := h.getR hnd c.key
  have hn2 : ((A.rows.map rowI).map (·.1)).Nodup := by rw [rowI_keys]; exact hnd
  refine ⟨?_, hq.eR.trans h.R, hq.ebg.trans h.bg⟩
  show u'.rows.Perm ((putR A.rows c.key c.n c.v).map rowI)
  unfold putR
  split
  · rename_i hm
    have e : mapI (Go.Proofs.YtflkddllofeiaaaGreatDoor.getR A.rows c.key ++ [⟨c.n, c.v⟩]) = mapI (Go.Proofs.YtflkddllofeiaaaGreatDoor.getR A.rows c.key) ++ [⟨c.n, (c.v.size : Int)⟩] := by unfold mapI; rw [List.map_append]; rfl
    rw [← mputI, e, ← hg]
    exact (hq.yes (by rw [hg, mapI_mayPut]; exact hm)).trans (mput_perm h.rows hn2)
  · rename_i hm
    rw [hq.no (by rw [hg, mapI_mayPut]; simpa using hm)]
    exact h.rows
theorem SimI.opened (h : SimI u A) {c : CallV} (h0 : c.kind = 4) (hq : NI.TurnS w w' u u') (hR : u'.R = u.R ++ [((u.bg : Int) + 1, c.n)]) (hbg : u'.bg = u.bg + 1) : SimI u' (stepA A c) := by
  have e : stepA A c = { A with R := A.R ++ [((A.bg : Int) + 1, c.n)], bg := A.bg + 1 } := by unfold stepA; rw [h0]; rfl
  rw [e]
  refine ⟨by rw [hq.erows]; exact h.rows, ?_, ?_⟩
  · rw [hR, h.R, h.bg]
  · rw [hbg, h.bg]
theorem SimI.closed (h : SimI u A) {c : CallV} (h0 : c.kind = 5) (hq : NI.TurnS w w' u u') (hR : u'.R = mdel u.R c.n) (hbg : u'.bg = u.bg) : SimI u' (stepA A c) := by
  have e : stepA A c = { A with R := mdel A.R c.n } := by unfold stepA; rw [h0]; rfl
  rw [e]
  exact ⟨by rw [hq.erows]; exact h.rows, by rw [hR, h.R], hbg.trans h.bg⟩
theorem SimI.pruned (h : SimI u A) (hnd : (A.rows.map (·.1)).Nodup) {c : CallV} (h0 : c.kind = 7) (hq : NI.PruneS w w' u u' c.key (minL c.n A.R)) : SimI u' (stepA A c) := by
  have e : stepA A c = { A with rows := prR A.rows c.key (minL c.n A.R) } := by unfold stepA; rw [h0]; rfl
  have hn2 : ((A.rows.map rowI).map (·.1)).Nodup := by rw [rowI_keys]; exact hnd
  rw [e]
  refine ⟨?_, hq.eR.trans h.R, hq.ebg.trans h.bg⟩
  show u'.rows.Perm ((prR A.rows c.key (minL c.n A.R)).map rowI)
  rw [hq.erows, ← prRI]
  unfold NI.prR
  rw [mget_perm h.rows hn2, show NI.getR u.rows c.key = NI.getR (A.rows.map rowI) c.key from by unfold NI.getR; rw [mget_perm h.rows hn2]]
  split
  · exact mput_perm h.rows hn2
  · exact h.rows
end
end Go.Proofs.YtflkddllofeiaaaGreatDoor
