/- Store: New. -/
import Derived.Test.YtflkddllofeiaaaDoorS1
import Derived.Laws.MakeOwn
namespace Go.Proofs.YtflkddllofeiaaaDoor
set_option linter.unusedSimpArgs false
set_option linter.unusedVariables false
open Go.RowKit Go.MapKept Go.ChangeMaps Go.Maps

theorem infoSMap : (Tryd.prog.info? 56).map (fun i => (i.zero, i.size, i.bytes)) = some (some (.map none), 1, 8) := by kernel_rfl
/-- A store of which k shards are laid. -/
structure NewR (w0 w : World) (p gs mr n k : Nat) (ms : List Nat) (cs : Array Value) : Prop where
  blk : Blk w p 55 #[.slice (some ⟨gs, 0, none⟩) n n, .map (some mr), .int .i64 0]
  row : Blk w gs 56 cs
  size : cs.size = n
  pre : ∀ i (h : i < ms.length), cs[i]? = some (eM ms[i])
  len : ms.length = k
  maps : ∀ m ∈ ms, MapT eK eP w m ([] : List (Key × Nat))
  msn : ms.Nodup
  rd : MapT eI eI w mr ([] : List (Int × Int))
  mrn : mr ∉ ms
  low : w0.heap.size ≤ p ∧ w0.heap.size ≤ gs ∧ w0.heap.size ≤ mr ∧ ∀ m ∈ ms, w0.heap.size ≤ m
  bel : Below w0.heap.size w0 w
theorem NewR.step {w0 w : World} {p gs mr n k : Nat} {ms : List Nat} {cs : Array Value} (h : NewR w0 w p gs mr n k ms cs) (hk : k < n) :
    NewR w0 ((w.alloc (.map #[] 0)).setCell ⟨gs, k, none⟩ (.map (some w.heap.size))) p gs mr n (k + 1) (ms ++ [w.heap.size]) (cs.setIfInBounds k (.map (some w.heap.size))) := by
  have hb1 : Below w.heap.size w (w.alloc (.map #[] 0)) := (Below.refl _ _).alloc (Nat.le_refl _) _
  have hb : But w ((w.alloc (.map #[] 0)).setCell ⟨gs, k, none⟩ (.map (some w.heap.size))) (fun i => i = gs) := (But.of_below hb1 (fun i => i = gs)).setCell (p := ⟨gs, k, none⟩) (fun _ => rfl) _
  have hnew := MapT.new w eK eP
  have hg : gs < w.heap.size := h.row.lt
  have hb2 : But (w.alloc (.map #[] 0)) ((w.alloc (.map #[] 0)).setCell ⟨gs, k, none⟩ (.map (some w.heap.size))) (fun i => i = gs) := (But.refl _ (fun i => i = gs)).setCell (p := ⟨gs, k, none⟩) (fun _ => rfl) _
  have hm : ∀ m ∈ ms, m < w.heap.size := fun m hm => (h.maps m hm).lt
  refine ⟨h.blk.but hb (blk_ne2 h.blk h.row (by decide)), ?_, by simpa using h.size, fun i hi => ?_, by simp [h.len], fun m hmm => ?_, ?_, h.rd.but hb (fun e => blk_map_ne h.row h.rd e.symm), ?_, ⟨h.low.1, h.low.2.1, h.low.2.2.1, fun m hmm => ?_⟩, h.bel.trans (hb.to_below (fun i e => e ▸ h.low.2.1) h.bel.size)⟩
  · exact (h.row.below hb1 hg).set_ k _
  · by_cases hl : i < ms.length
    · rw [List.getElem_append_left hl, Array.getElem?_setIfInBounds_ne (by rw [← h.len]; omega)]
      exact h.pre i hl
    · obtain rfl : i = k := by have := h.len; simp at hi; omega
      rw [Array.getElem?_setIfInBounds_self_of_lt (by rw [h.size]; exact hk)]
      have hl := h.len
      subst hl
      simp [eM]
  · rcases List.mem_append.1 hmm with hmm | hmm
    · exact (h.maps m hmm).but hb (fun e => blk_map_ne h.row (h.maps m hmm) e.symm)
    · rw [List.mem_singleton.1 hmm]
      exact hnew.but hb2 (by omega)
  · rw [List.nodup_append]
    exact ⟨h.msn, by simp, fun a ha b hb => by have := hm a ha; rw [List.mem_singleton.1 hb]; omega⟩
  · intro hmm
    rcases List.mem_append.1 hmm with hmm | hmm
    · exact h.mrn hmm
    · have := h.rd.lt; rw [List.mem_singleton.1 hmm] at this; omega
  · rcases List.mem_append.1 hmm with hmm | hmm
    · exact h.low.2.2.2 m hmm
    · rw [List.mem_singleton.1 hmm]; exact h.bel.size
theorem replicate_flat {α : Type} (n : Nat) : (List.replicate n ([] : List α)).flatten = [] := by induction n <;> simp_all
theorem NewR.done {w0 w : World} {p gs mr n : Nat} {ms : List Nat} {cs : Array Value} (h : NewR w0 w p gs mr n n ms cs) (hn : 1 ≤ n ∧ n ≤ 64) :
    StAt w ⟨p, gs, mr, ms, List.replicate n [], [], 0⟩ ∧ ∀ i, StV.of ⟨p, gs, mr, ms, List.replicate n [], [], 0⟩ i → w0.heap.size ≤ i := by
  have hcs : cs = (ms.map eM).toArray := by
    apply Array.ext_getElem?
    intro i
    by_cases hi : i < ms.length
    · rw [h.pre i hi]; simp [hi]
    · rw [Array.getElem?_eq_none (by rw [h.size, ← h.len]; omega)]
      simp [Nat.le_of_not_lt hi]
  have hch : StV.chs ⟨p, gs, mr, ms, List.replicate n [], [], 0⟩ = [] := by unfold StV.chs; exact replicate_flat n
  have hsn : StV.n ⟨p, gs, mr, ms, List.replicate n [], [], 0⟩ = n := h.len
  refine ⟨⟨?_, hcs ▸ h.row, by rw [hsn]; exact hn, by rw [hsn]; simp, fun i h1 h2 => ?_, h.msn, (fun q hq => by rw [hch] at hq; cases hq), (fun i hi q hq => by simp at hq), (by rw [hch]; exact List.nodup_nil), (by rw [hch]; exact List.Pairwise.nil), h.rd, List.nodup_nil, (fun q hq => by cases hq), h.mrn⟩, ?_⟩
  · rw [hsn]; exact h.blk
  · have := h.maps _ (List.getElem_mem h1)
    simpa using this
  · rintro i (rfl | rfl | rfl | hi | ⟨q, hq, _⟩)
    · exact h.low.1
    · exact h.low.2.1
    · exact h.low.2.2.1
    · exact h.low.2.2.2 i hi
    · rw [hch] at hq; cases hq
/-- What New answers. -/
def NewQ (w : World) (n : Nat) (e : Ending) (w' : World) : Prop := ∃ s : StV, e = .returned (.pointer (some ⟨s.p, 0, none⟩)) ∧ StAt w' s ∧ s.n = n ∧ s.chs = [] ∧ s.R = [] ∧ s.bg = 0 ∧ Below w.heap.size w w' ∧ ∀ i, s.of i → w.heap.size ≤ i
set_option maxRecDepth 100000 in
set_option maxHeartbeats 2000000 in
theorem newS_calls (x : Int) (w : World) : Calls Tryd.prog 10 #[.int .i64 x] w (NewQ w (cntS x)) := by
  have hcc := counted_calls x
  have hc := cntS_pos x
  obtain ⟨n, hn⟩ : ∃ n, cntS x = n := ⟨_, rfl⟩
  simp only [hn] at hcc hc ⊢
  have HCC := Lib.hid hcc
  clear hcc hn
  have hmm := @run_makeMap Tryd.prog
  obtain ⟨i0, hi0, hz0, hz1, hz2⟩ := info_parts infoSMap
  have hms : (Instr.makeSlice 52 (.int .i64 (n : Int)) (.int .i64 (n : Int))).run Tryd.prog w = .ok (.slice (some ⟨w.heap.size, 0, none⟩) n n) (w.alloc (.cells (madeCells (Value.map none).cells (n * 1)) 56)) := by
    have := run_makeSlice (P := Tryd.prog) w 52 56 i0 (.map none) Tryd.underlying52 hi0 hz0 .i64 .i64 n n (by omega) (by omega) (by simp [hz1]; omega) (by rw [hz2]; omega) (by omega)
    simpa [hz1] using this
  obtain ⟨Z, hZ⟩ : ∃ Z, madeCells (Value.map none).cells (n * 1) = Z := ⟨_, rfl⟩
  have hZs : Z.size = n := by rw [← hZ, size_madeCells]; omega
  rw [hZ] at hms
  clear hZ
  have hbel : ∀ o1 o2 o3 : Obj, Below w.heap.size w (((w.alloc o1).alloc o2).alloc o3) := fun o1 o2 o3 => (((Below.refl _ _).alloc (Nat.le_refl _) _).alloc (by simp) _).alloc (by simp; omega) _
  have hst : NewR w (((w.alloc (.cells Z 56)).alloc (.map #[] 0)).alloc (.cells #[.slice (some ⟨w.heap.size, 0, none⟩) n n, .map (some (w.heap.size + 1)), .int .i64 0] 55)) (w.heap.size + 1 + 1) w.heap.size (w.heap.size + 1) n 0 [] Z := by
    have s1 : ∀ (v : World) (o : Obj), (v.alloc o).heap.size = v.heap.size + 1 := fun v o => by simp
    have b0 := Blk.new w 56 Z
    have m0 := MapT.new (w.alloc (.cells Z 56)) eI eI
    have b := Blk.new ((w.alloc (.cells Z 56)).alloc (.map #[] 0)) 55 #[.slice (some ⟨w.heap.size, 0, none⟩) n n, .map (some (w.heap.size + 1)), .int .i64 0]
    rw [s1] at m0
    rw [s1, s1] at b
    have al : ∀ {v : World} {o : Obj}, Below v.heap.size v (v.alloc o) := fun {v o} => (Below.refl _ _).alloc (Nat.le_refl _) _
    exact ⟨b, (b0.below al b0.lt).below al (b0.below al b0.lt).lt, hZs, fun i h => by simp at h, rfl, fun m hm => by simp at hm, by simp, m0.below al, by simp, ⟨by omega, by omega, by omega, fun m hm => by simp at hm⟩, hbel _ _ _⟩
  have HST := Lib.hid hst
  have HMS := Lib.hid hms
  clear hst hbel hZs hz0 hz1 hz2 hi0
  go_enter Tryd.func10, Tryd.ntmps10
  go_wp2_with (fail)
  refine (HCC.out w).mono ?_
  rintro e w ⟨rfl, rfl⟩
  have hms := HMS.out
  go_wp2_with (fail)
  clear hms
  go_loopw [16] (fun i wr => ∃ (k : Nat) (ms : List Nat) (cs : Array Value), k ≤ n ∧ i = .int .i64 k ∧ NewR w wr (w.heap.size + 1 + 1) w.heap.size (w.heap.size + 1) n k ms cs) (fun i _ => n - (intOf i).toNat)
  case atStart => exact ⟨0, [], Z, by omega, rfl, HST.out⟩
  case round =>
    obtain ⟨k, ms, cs, hk, rfl, hR⟩ := hrel
    by_cases hlt : k < n
    · have hkl : (k : Int) < n := by omega
      have c0 : wr.cell? ⟨w.heap.size + 1 + 1, 0, none⟩ = some (.slice (some ⟨w.heap.size, 0, none⟩) n n) := hR.blk.cell 0
      have hcs : k < cs.size := by rw [hR.size]; exact hlt
      have c1 : wr.cell? ⟨w.heap.size, k, none⟩ = some cs[k] := (hR.row.cell k).trans (by simp [hcs])
      have hrow2 := hR.row.below (w' := wr.alloc (.map #[] 0)) ((Below.refl _ _).alloc (Nat.le_refl _) _) hR.row.lt
      have c2 : (wr.alloc (.map #[] 0)).cell? ⟨w.heap.size, k, none⟩ = some cs[k] := (hrow2.cell k).trans (by simp [hcs])
      have f2 : (wr.alloc (.map #[] 0)).frozen? ⟨w.heap.size, k, none⟩ = false := hrow2.frozen k
      have hlow := hR.bel.size
      have HR := Lib.hid (hR.step hlt)
      clear hR hrow2
      go_wp2_with (fail)
      go_roundw
      case rel => exact ⟨k + 1, _, _, by omega, by go_num, HR.out⟩
      case measure => simp [intOf]; omega
    · obtain rfl : k = n := by omega
      have hd := hR.done hc
      have HD := Lib.hid (show NewQ w k (.returned (.pointer (some ⟨w.heap.size + 1 + 1, 0, none⟩))) wr from ⟨_, rfl, hd.1, hR.len, by unfold StV.chs; exact replicate_flat k, rfl, rfl, hR.bel, hd.2⟩)
      clear hd hR
      go_wp2
      go_ret
      exact HD.out
end Go.Proofs.YtflkddllofeiaaaDoor
