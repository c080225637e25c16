/- guard.Encode's closure 'put' (which appends numbers to the captured list) and slices.Clip, by contracts. -/
import Derived.Test.YtmdkcggmnejkoaaDoorWorks
import Derived.Test.YtmdkcggmnejkoaaDoorLongsKit
namespace Go.Proofs.YtmdkcggmnejkoaaDoor
set_option linter.unusedSimpArgs false
set_option linter.unusedVariables false
open Go.RowKit

/-- The captured list: the cell at gl holds a row of the call's own. -/
def PutAt (w : World) (gl B : Nat) (l : List Int) : Prop := ∃ v, Blk w gl 34 #[v] ∧ w.ownsRow B 2 1 v l.length (intsC l)

theorem own_far {w : World} {base : Nat} {e : TypeId} {size n : Nat} {v : Value} {xs : List Value} {p : Addr} (h : w.ownsRow base e size v n xs) (hp : v.ownBlock ≠ some p.block) (u : Value) : (w.setCell p u).ownsRow base e size v n xs := by
  obtain ⟨h1, h2⟩ := h
  refine ⟨h1, ?_⟩
  rcases h2 with h2 | ⟨g, cap, cur, rfl, hg, hh, r⟩
  · exact .inl h2
  · exact .inr ⟨g, cap, cur, rfl, hg, (Below.heap_setCell w p u g (fun he => hp (by simp [Value.ownBlock, he]))).trans hh, r⟩
theorem ints_get (l : List Int) (k : Nat) : (intsC l)[k]? = l[k]?.map (Value.int .i64) := by
  induction l generalizing k with
  | nil => rfl
  | cons x l ih =>
    cases k with
    | zero => rfl
    | succ k => simpa [intsC, Int.cs] using ih k
set_option maxRecDepth 100000 in
set_option maxHeartbeats 4000000 in
theorem put_calls (gl gn B c : Nat) (l news : List Int) (w : World) (h : PutAt w gl B l) (hB : B ≤ gl) (hn : Blk w gn 3 (intsC news).toArray) (hBn : gn < w.heap.size) (hlen : (l.length + news.length) * 8 ≤ 140737488355328) :
    Calls Tryd.prog 45 #[.slice (some ⟨gn, 0, none⟩) news.length c, .pointer (some ⟨gl, 0, none⟩)] w fun e w' => (∃ v, e = .returned v) ∧ PutAt w' gl B (l ++ news) ∧ Below B w w' := by
  obtain ⟨i0, hi0, hz0, hz1, hz2⟩ := info_parts infoLongs
  go_enter Tryd.func45, Tryd.ntmps45
  go_wp2_with (fail)
  go_loopw [7] (fun i wr => ∃ k : Nat, k ≤ news.length ∧ i = .int .i64 k ∧ PutAt wr gl B (l ++ news.take k) ∧ Below B w wr ∧ Blk wr gn 3 (intsC news).toArray) (fun i _ => news.length - (intOf i).toNat)
  case atStart => exact ⟨0, Nat.zero_le _, rfl, by simpa using h, Below.refl _ _, hn⟩
  case round =>
    obtain ⟨k, hk, rfl, ⟨v, hv, hown⟩, hbel, hnr⟩ := hrel
    by_cases hlt : k < news.length
    · have hlen2 : (l ++ news.take k).length = l.length + k := by rw [List.length_append, List.length_take]; omega
      have htk : l ++ news.take (k + 1) = (l ++ news.take k) ++ [news[k]] := by rw [List.take_succ_eq_append_getElem hlt, List.append_assoc]
      have HTK := Lib.hid htk
      clear htk
      have e0 : wr.cell? ⟨gn, k, none⟩ = some (.int .i64 news[k]) := by rw [hnr.cell k, List.getElem?_toArray, ints_get]; simp [hlt]
      generalize hx : news[k] = x at e0 HTK
      have HX := Lib.hid hx
      clear hx
      generalize hM : l ++ news.take k = M at hown hlen2 HTK
      have HM := Lib.hid hM
      clear hM
      have c0 : wr.cell? ⟨gl, 0, none⟩ = some v := hv.cell 0
      have hgl : gl < wr.heap.size := hv.lt
      have hlt' : (k : Int) < news.length := by omega
      go_wp2_with ((at_builtin; refine wpList_append_own _ rfl (.tmp 11) (.tmp 13) 34 rfl B 2 i0 _ 1 8 Tryd.underlying34 hi0 hz0 hz1 hz2 rfl (by decide) _ M.length (intsC M) rfl (hown.alloc _) ⟨wr.heap.size, 0, none⟩ 1 1 [.int .i64 x] rfl rfl ?_ ?_ ?_ ?_ ?_ ?_); exact new_cells wr 2 [.int .i64 x]; (simp [Value.oneCell']); (unfold maxLen; omega); (omega); (have := hbel.size; simp; omega); intro v1 w1 hown1 hg1 _; obtain ⟨A1, c1, rfl⟩ := own_slice_n hown1; have hv1 : Blk w1 gl 34 #[v] := (hv.alloc (.cells #[.int .i64 x] 2)).grown hg1 (fun he => own_blk_ne hown hv (by decide) he.symm); have c1 : w1.cell? ⟨gl, 0, none⟩ = some v := hv1.cell 0; have z1 : w1.frozen? ⟨gl, 0, none⟩ = false := hv1.frozen 0)
      go_roundw
      case rel =>
        have hne := own_blk_ne hown1 hv1 (by decide)
        have hbb : Below B w w1 := (hbel.alloc (by omega) _).grown hg1 (by simp; omega) (fun b hb => own_base hown hb)
        refine ⟨k + 1, by omega, by go_num, ⟨_, by simpa using hv1.set_ 0 _, ?_⟩, hbb.setCell hB _, ((hnr.alloc _).grown hg1 (fun he => own_blk_ne hown hnr (by decide) he.symm)).far (hnr.ne_ hv (by decide)) _⟩
        rw [HTK.out]
        have := own_far (p := ⟨gl, 0, none⟩) hown1 hne
        rw [show (M ++ [x]).length = M.length + 1 by simp, hlen2]
        have this := this (.slice A1 (l.length + k + 1) ‹Nat›)
        rw [hlen2] at this
        simpa [intsC, Int.cs] using this
      case measure => simp [intOf]; omega
    · obtain rfl : k = news.length := by omega
      rw [List.take_length] at hown
      go_wp2
      refine bodyPost_end (v := .tuple #[]) (by simp [results, Tryd.results45, go_sem]) rfl ?_
      exact ⟨⟨_, rfl⟩, ⟨v, hv, hown⟩, hbel⟩

set_option maxRecDepth 100000 in
theorem clip_calls (A : Option Addr) (n c : Nat) (h : n ≤ c) (w : World) : Calls Tryd.prog 46 #[.slice A n c] w fun e w' => e = .returned (.slice A n n) ∧ w = w' := by
  go_enter Tryd.func46, Tryd.ntmps46
  go_wp2_with (fail)
  go_ret
  exact ⟨rfl, rfl⟩
end Go.Proofs.YtmdkcggmnejkoaaDoor
