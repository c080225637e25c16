/- Store: shard, Shards. -/
import Derived.Test.YtflkddllofeiaaaGreatDoorStore
import Derived.Deep.RegionHeld3
import Derived.Laws.MakeOwn
namespace Go.Proofs.YtflkddllofeiaaaGreatDoor
set_option linter.unusedSimpArgs false
set_option linter.unusedVariables false
open Go.RowKit Go.MapKept Go.ChangeMaps Go.Maps

theorem cntS_nat {n : Nat} (h : 1 ≤ n ∧ n ≤ 64) : cntS (n : Int) = n := by unfold cntS; split; omega; split <;> omega
def StV.map (s : StV) (k : Key) : Nat := s.ms.getD (s.sh k) 0
theorem StAt.map_eq {w : World} {s : StV} (h : StAt w s) (k : Key) : s.map k = s.ms[s.sh k]'(h.sh_lt k) := by
  unfold StV.map
  rw [List.getD_eq_getElem?_getD, List.getElem?_eq_getElem (h.sh_lt k)]
  rfl
theorem StAt.at_ {w : World} {s : StV} (h : StAt w s) (k : Key) : w.cell? ⟨s.gs, s.sh k, none⟩ = some (.map (some (s.map k))) := by
  have := h.row.cell (s.sh k)
  rw [this, h.map_eq]
  have hl := h.sh_lt k
  simp [eM, hl]
set_option maxRecDepth 100000 in
set_option maxHeartbeats 1000000 in
theorem shardS_calls (s : StV) (k : Key) (w : World) (h : StAt w s) : Calls Tryz.prog 64 #[.pointer (some ⟨s.p, 0, none⟩), .agg #[.int .i64 k.acc, .int .i64 k.ast]] w
    fun e w' => e = .returned (.map (some (s.map k))) ∧ Below w.heap.size w w' := by
  have hc := shard_calls k s.n
  rw [cntS_nat h.n1] at hc
  have hb0 : Below w.heap.size w (w.alloc (.cells #[.int .i64 k.acc, .int .i64 k.ast] 33)) := (Below.refl _ _).alloc (Nat.le_refl _) _
  have h1 := h.below hb0
  have p0 : (w.alloc (.cells #[.int .i64 k.acc, .int .i64 k.ast] 33)).cell? ⟨s.p, 0, none⟩ = some (.slice (some ⟨s.gs, 0, none⟩) s.n s.n) := h1.blk.cell 0
  have p1 := h1.at_ k
  have hB := Blk.new w 33 #[.int .i64 k.acc, .int .i64 k.ast]
  have q0 : (w.alloc (.cells #[.int .i64 k.acc, .int .i64 k.ast] 33)).cell? ⟨w.heap.size, 0, none⟩ = some (.int .i64 k.acc) := hB.cell 0
  have q1 : (w.alloc (.cells #[.int .i64 k.acc, .int .i64 k.ast] 33)).cell? ⟨w.heap.size, 1, none⟩ = some (.int .i64 k.ast) := hB.cell 1
  have hl := h.sh_lt k
  have hlt : ((s.sh k : Nat) : Int) < s.n := by unfold StV.n; omega
  have hsh : shardOf k s.n = s.sh k := rfl
  rw [hsh] at hc
  obtain ⟨j, hj⟩ : ∃ j, s.sh k = j := ⟨_, rfl⟩
  obtain ⟨n, hn⟩ : ∃ n, s.n = n := ⟨_, rfl⟩
  obtain ⟨m, hm⟩ : ∃ m, s.map k = m := ⟨_, rfl⟩
  rw [hm] at p1 ⊢
  rw [hn] at p0 hlt hc
  rw [hj] at p1 hlt hc
  obtain ⟨W, hW⟩ : ∃ X, w.alloc (.cells #[.int .i64 k.acc, .int .i64 k.ast] 33) = X := ⟨_, rfl⟩
  obtain ⟨g, hg⟩ : ∃ g, w.heap.size = g := ⟨_, rfl⟩
  rw [hW] at p0 p1 q0 q1 hb0
  rw [hg] at q0 q1
  have HC := Lib.hid hc
  have HB0 := Lib.hid hb0
  have HW := Lib.hid hW
  have HG := Lib.hid hg
  clear hc hb0 h1 hB hl hsh hj hn hm hW hg h
  go_enter Tryz.func64, Tryz.ntmps64
  go_wp2_with (fail)
  rw [HW.out, HG.out]
  go_region_held3 (fun w' => w'.cell? ⟨g, 0, none⟩ = some (.int .i64 k.acc) ∧ w'.cell? ⟨g, 1, none⟩ = some (.int .i64 k.ast) ∧ w'.cell? ⟨s.p, 0, none⟩ = some (.slice (some ⟨s.gs, 0, none⟩) n n) ∧ w'.cell? ⟨s.gs, j, none⟩ = some (.map (some m)))
    (first | go_keep | fail)
    ((go_at_call 51; refine (HC.out _).mono ?_; rintro e w4 ⟨rfl, hb4⟩; have r0 : w4.cell? ⟨g, 0, none⟩ = some (.int .i64 k.acc) := cell_below (w := W.drew) hb4 q0; have r1 : w4.cell? ⟨g, 1, none⟩ = some (.int .i64 k.ast) := cell_below (w := W.drew) hb4 q1; have r2 : w4.cell? ⟨s.p, 0, none⟩ = some (.slice (some ⟨s.gs, 0, none⟩) n n) := cell_below (w := W.drew) hb4 p0; have r3 : w4.cell? ⟨s.gs, j, none⟩ = some (.map (some m)) := cell_below (w := W.drew) hb4 p1; have HB4 := Lib.hid hb4; clear hb4))
  go_wp2
  go_ret
  have hb1 : Below W.heap.size W w4 := (Below.refl _ _).drew.trans HB4.out
  rw [HG.out]
  have hb0 := HB0.out
  rw [HG.out] at hb0
  exact ⟨rfl, hb0.trans (hb1.mono (by have := HB0.out.size; rw [HG.out] at this; exact this))⟩
theorem shards_calls (s : StV) (w : World) (h : StAt w s) : Calls Tryz.prog 18 #[.pointer (some ⟨s.p, 0, none⟩)] w fun e w' => e = .returned (.int .i64 s.n) ∧ w' = w := by
  have p0 : w.cell? ⟨s.p, 0, none⟩ = some (.slice (some ⟨s.gs, 0, none⟩) s.n s.n) := h.blk.cell 0
  clear h
  go_enter Tryz.func18, Tryz.ntmps18
  go_wp2
  go_ret
  exact ⟨rfl, rfl⟩
end Go.Proofs.YtflkddllofeiaaaGreatDoor

/- Store: New. -/
namespace Go.Proofs.YtflkddllofeiaaaGreatDoor
open Go.RowKit Go.MapKept Go.ChangeMaps Go.Maps

theorem infoSMap : (Tryz.prog.info? 59).map (fun i => (i.zero, i.size, i.bytes)) = some (some (.map none), 1, 8) := by kernel_rfl
/-- A store of which k shards are laid. -/
structure NewR (w0 w : World) (p gs mr n k : Nat) (ms : List Nat) (cs : Array Value) : Prop where
  blk : Blk w p 58 #[.slice (some ⟨gs, 0, none⟩) n n, .map (some mr), .int .i64 0]
  row : Blk w gs 59 cs
  size : cs.size = n
  pre : ∀ i (h : i < ms.length), cs[i]? = some (eM ms[i])
  len : ms.length = k
  maps : ∀ m ∈ ms, MapT eK eP w m ([] : List (Key × Nat))
  msn : ms.Nodup
  rd : MapT eI eI w mr ([] : List (Int × Int))
  mrn : mr ∉ ms
  low : w0.heap.size ≤ p ∧ w0.heap.size ≤ gs ∧ w0.heap.size ≤ mr ∧ ∀ m ∈ ms, w0.heap.size ≤ m
  bel : Below w0.heap.size w0 w
theorem NewR.step {w0 w : World} {p gs mr n k : Nat} {ms : List Nat} {cs : Array Value} (h : NewR w0 w p gs mr n k ms cs) (hk : k < n) :
    NewR w0 ((w.alloc (.map #[] 0)).setCell ⟨gs, k, none⟩ (.map (some w.heap.size))) p gs mr n (k + 1) (ms ++ [w.heap.size]) (cs.setIfInBounds k (.map (some w.heap.size))) := by
  have hb1 : Below w.heap.size w (w.alloc (.map #[] 0)) := (Below.refl _ _).alloc (Nat.le_refl _) _
  have hb : But w ((w.alloc (.map #[] 0)).setCell ⟨gs, k, none⟩ (.map (some w.heap.size))) (fun i => i = gs) := (But.of_below hb1 (fun i => i = gs)).setCell (p := ⟨gs, k, none⟩) (fun _ => rfl) _
  have hnew := MapT.new w eK eP
  have hg : gs < w.heap.size := h.row.lt
  have hb2 : But (w.alloc (.map #[] 0)) ((w.alloc (.map #[] 0)).setCell ⟨gs, k, none⟩ (.map (some w.heap.size))) (fun i => i = gs) := (But.refl _ (fun i => i = gs)).setCell (p := ⟨gs, k, none⟩) (fun _ => rfl) _
  have hm : ∀ m ∈ ms, m < w.heap.size := fun m hm => (h.maps m hm).lt
  refine ⟨h.blk.but hb (blk_ne2 h.blk h.row (by decide)), ?_, by simpa using h.size, fun i hi => ?_, by simp [h.len], fun m hmm => ?_, ?_, h.rd.but hb (fun e => blk_map_ne h.row h.rd e.symm), ?_, ⟨h.low.1, h.low.2.1, h.low.2.2.1, fun m hmm => ?_⟩, h.bel.trans (hb.to_below (fun i e => e ▸ h.low.2.1) h.bel.size)⟩
  · exact (h.row.below hb1 hg).set_ k _
  · by_cases hl : i < ms.length
    · rw [List.getElem_append_left hl, Array.getElem?_setIfInBounds_ne (by rw [← h.len]; omega)]
      exact h.pre i hl
    · obtain rfl : i = k := by have := h.len; simp at hi; omega
      rw [Array.getElem?_setIfInBounds_self_of_lt (by rw [h.size]; exact hk)]
      have hl := h.len
      subst hl
      simp [eM]
  · rcases List.mem_append.1 hmm with hmm | hmm
    · exact (h.maps m hmm).but hb (fun e => blk_map_ne h.row (h.maps m hmm) e.symm)
    · rw [List.mem_singleton.1 hmm]
      exact hnew.but hb2 (by omega)
  · rw [List.nodup_append]
    exact ⟨h.msn, by simp, fun a ha b hb => by have := hm a ha; rw [List.mem_singleton.1 hb]; omega⟩
  · intro hmm
    rcases List.mem_append.1 hmm with hmm | hmm
    · exact h.mrn hmm
    · have := h.rd.lt; rw [List.mem_singleton.1 hmm] at this; omega
  · rcases List.mem_append.1 hmm with hmm | hmm
    · exact h.low.2.2.2 m hmm
    · rw [List.mem_singleton.1 hmm]; exact h.bel.size
theorem replicate_flat {α : Type} (n : Nat) : (List.replicate n ([] : List α)).flatten = [] := by induction n <;> simp_all
theorem NewR.done {w0 w : World} {p gs mr n : Nat} {ms : List Nat} {cs : Array Value} (h : NewR w0 w p gs mr n n ms cs) (hn : 1 ≤ n ∧ n ≤ 64) :
    StAt w ⟨p, gs, mr, ms, List.replicate n [], [], 0⟩ ∧ ∀ i, StV.of ⟨p, gs, mr, ms, List.replicate n [], [], 0⟩ i → w0.heap.size ≤ i := by
  have hcs : cs = (ms.map eM).toArray := by
    apply Array.ext_getElem?
    intro i
    by_cases hi : i < ms.length
    · rw [h.pre i hi]; simp [hi]
    · rw [Array.getElem?_eq_none (by rw [h.size, ← h.len]; omega)]
      simp [Nat.le_of_not_lt hi]
  have hch : StV.chs ⟨p, gs, mr, ms, List.replicate n [], [], 0⟩ = [] := by unfold StV.chs; exact replicate_flat n
  have hsn : StV.n ⟨p, gs, mr, ms, List.replicate n [], [], 0⟩ = n := h.len
  refine ⟨⟨?_, hcs ▸ h.row, by rw [hsn]; exact hn, by rw [hsn]; simp, fun i h1 h2 => ?_, h.msn, (fun q hq => by rw [hch] at hq; cases hq), (fun i hi q hq => by simp at hq), (by rw [hch]; exact List.nodup_nil), (by rw [hch]; exact List.Pairwise.nil), h.rd, List.nodup_nil, (fun q hq => by cases hq), h.mrn⟩, ?_⟩
  · rw [hsn]; exact h.blk
  · have := h.maps _ (List.getElem_mem h1)
    simpa using this
  · rintro i (rfl | rfl | rfl | hi | ⟨q, hq, _⟩)
    · exact h.low.1
    · exact h.low.2.1
    · exact h.low.2.2.1
    · exact h.low.2.2.2 i hi
    · rw [hch] at hq; cases hq
/-- What New answers. -/
def NewQ (w : World) (n : Nat) (e : Ending) (w' : World) : Prop := ∃ s : StV, e = .returned (.pointer (some ⟨s.p, 0, none⟩)) ∧ StAt w' s ∧ s.n = n ∧ s.chs = [] ∧ s.R = [] ∧ s.bg = 0 ∧ Below w.heap.size w w' ∧ ∀ i, s.of i → w.heap.size ≤ i
set_option maxRecDepth 100000 in
set_option maxHeartbeats 2000000 in
theorem newS_calls (x : Int) (w : World) : Calls Tryz.prog 6 #[.int .i64 x] w (NewQ w (cntS x)) := by
  have hcc := counted_calls x
  have hc := cntS_pos x
  obtain ⟨n, hn⟩ : ∃ n, cntS x = n := ⟨_, rfl⟩
  simp only [hn] at hcc hc ⊢
  have HCC := Lib.hid hcc
  clear hcc hn
  have hmm := @run_makeMap Tryz.prog
  obtain ⟨i0, hi0, hz0, hz1, hz2⟩ := info_parts infoSMap
  have hms : (Instr.makeSlice 54 (.int .i64 (n : Int)) (.int .i64 (n : Int))).run Tryz.prog w = .ok (.slice (some ⟨w.heap.size, 0, none⟩) n n) (w.alloc (.cells (madeCells (Value.map none).cells (n * 1)) 59)) := by
    have := run_makeSlice (P := Tryz.prog) w 54 59 i0 (.map none) Tryz.underlying54 hi0 hz0 .i64 .i64 n n (by omega) (by omega) (by simp [hz1]; omega) (by rw [hz2]; omega) (by omega)
    simpa [hz1] using this
  obtain ⟨Z, hZ⟩ : ∃ Z, madeCells (Value.map none).cells (n * 1) = Z := ⟨_, rfl⟩
  have hZs : Z.size = n := by rw [← hZ, size_madeCells]; omega
  rw [hZ] at hms
  clear hZ
  have hbel : ∀ o1 o2 o3 : Obj, Below w.heap.size w (((w.alloc o1).alloc o2).alloc o3) := fun o1 o2 o3 => (((Below.refl _ _).alloc (Nat.le_refl _) _).alloc (by simp) _).alloc (by simp; omega) _
  have hst : NewR w (((w.alloc (.cells Z 59)).alloc (.map #[] 0)).alloc (.cells #[.slice (some ⟨w.heap.size, 0, none⟩) n n, .map (some (w.heap.size + 1)), .int .i64 0] 58)) (w.heap.size + 1 + 1) w.heap.size (w.heap.size + 1) n 0 [] Z := by
    have s1 : ∀ (v : World) (o : Obj), (v.alloc o).heap.size = v.heap.size + 1 := fun v o => by simp
    have b0 := Blk.new w 59 Z
    have m0 := MapT.new (w.alloc (.cells Z 59)) eI eI
    have b := Blk.new ((w.alloc (.cells Z 59)).alloc (.map #[] 0)) 58 #[.slice (some ⟨w.heap.size, 0, none⟩) n n, .map (some (w.heap.size + 1)), .int .i64 0]
    rw [s1] at m0
    rw [s1, s1] at b
    have al : ∀ {v : World} {o : Obj}, Below v.heap.size v (v.alloc o) := fun {v o} => (Below.refl _ _).alloc (Nat.le_refl _) _
    exact ⟨b, (b0.below al b0.lt).below al (b0.below al b0.lt).lt, hZs, fun i h => by simp at h, rfl, fun m hm => by simp at hm, by simp, m0.below al, by simp, ⟨by omega, by omega, by omega, fun m hm => by simp at hm⟩, hbel _ _ _⟩
  have HST := Lib.hid hst
  have HMS := Lib.hid hms
  clear hst hbel hZs hz0 hz1 hz2 hi0
  go_enter Tryz.func6, Tryz.ntmps6
  go_wp2_with (fail)
  refine (HCC.out w).mono ?_
  rintro e w ⟨rfl, rfl⟩
  have hms := HMS.out
  go_wp2_with (fail)
  clear hms
  go_loopw [16] (fun i wr => ∃ (k : Nat) (ms : List Nat) (cs : Array Value), k ≤ n ∧ i = .int .i64 k ∧ NewR w wr (w.heap.size + 1 + 1) w.heap.size (w.heap.size + 1) n k ms cs) (fun i _ => n - (intOf i).toNat)
  case atStart => exact ⟨0, [], Z, by omega, rfl, HST.out⟩
  case round =>
    obtain ⟨k, ms, cs, hk, rfl, hR⟩ := hrel
    by_cases hlt : k < n
    · have hkl : (k : Int) < n := by omega
      have c0 : wr.cell? ⟨w.heap.size + 1 + 1, 0, none⟩ = some (.slice (some ⟨w.heap.size, 0, none⟩) n n) := hR.blk.cell 0
      have hcs : k < cs.size := by rw [hR.size]; exact hlt
      have c1 : wr.cell? ⟨w.heap.size, k, none⟩ = some cs[k] := (hR.row.cell k).trans (by simp [hcs])
      have hrow2 := hR.row.below (w' := wr.alloc (.map #[] 0)) ((Below.refl _ _).alloc (Nat.le_refl _) _) hR.row.lt
      have c2 : (wr.alloc (.map #[] 0)).cell? ⟨w.heap.size, k, none⟩ = some cs[k] := (hrow2.cell k).trans (by simp [hcs])
      have f2 : (wr.alloc (.map #[] 0)).frozen? ⟨w.heap.size, k, none⟩ = false := hrow2.frozen k
      have hlow := hR.bel.size
      have HR := Lib.hid (hR.step hlt)
      clear hR hrow2
      go_wp2_with (fail)
      go_roundw
      case rel => exact ⟨k + 1, _, _, by omega, by go_num, HR.out⟩
      case measure => simp [intOf]; omega
    · obtain rfl : k = n := by omega
      have hd := hR.done hc
      have HD := Lib.hid (show NewQ w k (.returned (.pointer (some ⟨w.heap.size + 1 + 1, 0, none⟩))) wr from ⟨_, rfl, hd.1, hR.len, by unfold StV.chs; exact replicate_flat k, rfl, rfl, hR.bel, hd.2⟩)
      clear hd hR
      go_wp2
      go_ret
      exact HD.out
end Go.Proofs.YtflkddllofeiaaaGreatDoor

/- Store: a key's place; a chain turned, a chain put in. -/
namespace Go.Proofs.YtflkddllofeiaaaGreatDoor
open Go.RowKit Go.MapKept Go.ChangeMaps Go.Maps

/-- The versions under each key. -/
def rowOf (q : Key × Ch) : Key × List VerS := (q.1, q.2.L)
def StV.rows (s : StV) : List (Key × List VerS) := s.chs.map rowOf
def getR (M : List (Key × List VerS)) (k : Key) : List VerS := (mget M k).getD []
theorem flat_set {α : Type} {S : List (List α)} {j : Nat} (hj : j < S.length) (l : List α) : (S.set j l).flatten = (S.take j).flatten ++ l ++ (S.drop (j + 1)).flatten := by
  rw [List.set_eq_take_append_cons_drop, if_pos hj, List.flatten_append, List.flatten_cons, List.append_assoc]
theorem flat_at {α : Type} {S : List (List α)} {j : Nat} (hj : j < S.length) : S.flatten = (S.take j).flatten ++ S[j] ++ (S.drop (j + 1)).flatten := by
  rw [← flat_set hj S[j], List.set_getElem_self]
theorem nodup_mid {α : Type} {P Q : List α} {x : α} : (P ++ x :: Q).Nodup ↔ x ∉ P ++ Q ∧ (P ++ Q).Nodup := by
  unfold List.Nodup
  rw [List.pairwise_middle (fun {_ _} h => Ne.symm h), List.pairwise_cons]
  exact ⟨fun h => ⟨fun hx => h.1 x hx rfl, h.2⟩, fun h => ⟨fun y hy e => h.1 (e ▸ hy), h.2⟩⟩
section
variable {w w' : World} {s : StV} {S : Nat → Prop}
/-- A key stands at one place, or nowhere. -/
theorem StAt.cases (h : StAt w s) (k : Key) :
    (∃ a c b P Q, s.S[s.sh k]'(h.sh_lt' k) = a ++ (k, c) :: b ∧ s.chs = P ++ (k, c) :: Q ∧ (∀ c', (s.S.set (s.sh k) (a ++ (k, c') :: b)).flatten = P ++ (k, c') :: Q) ∧ (∀ q ∈ a ++ b, q.1 ≠ k) ∧ (∀ q ∈ P ++ Q, q.1 ≠ k)) ∨
    (∃ P Q, s.chs = P ++ Q ∧ (∀ c', (s.S.set (s.sh k) (s.S[s.sh k]'(h.sh_lt' k) ++ [(k, c')])).flatten = P ++ (k, c') :: Q) ∧ (∀ q ∈ s.S[s.sh k]'(h.sh_lt' k), q.1 ≠ k) ∧ (∀ q ∈ P ++ Q, q.1 ≠ k)) := by
  have hj := h.sh_lt' k
  by_cases hk : ∃ q ∈ s.S[s.sh k], q.1 = k
  · obtain ⟨⟨k', c⟩, hq, rfl⟩ := hk
    obtain ⟨a, b, hab⟩ := List.append_of_mem hq
    have hfl : s.chs = ((s.S.take (s.sh k')).flatten ++ a) ++ (k', c) :: (b ++ (s.S.drop (s.sh k' + 1)).flatten) := by
      unfold StV.chs
      rw [flat_at hj, hab]
      simp
    have hkn := h.kn
    rw [hfl, List.map_append, List.map_cons, nodup_mid] at hkn
    have hno : ∀ q ∈ ((s.S.take (s.sh k')).flatten ++ a) ++ (b ++ (s.S.drop (s.sh k' + 1)).flatten), q.1 ≠ k' := fun q hq e => hkn.1 (by
      rw [← List.map_append]
      exact List.mem_map.2 ⟨q, hq, e⟩)
    refine .inl ⟨a, c, b, _, _, hab, hfl, fun c' => ?_, fun q hq => hno q ?_, hno⟩
    · rw [flat_set hj]; simp
    · rcases List.mem_append.1 hq with hq | hq
      · exact List.mem_append_left _ (List.mem_append_right _ hq)
      · exact List.mem_append_right _ (List.mem_append_left _ hq)
  · have hno : ∀ q ∈ s.S[s.sh k], q.1 ≠ k := fun q hq e => hk ⟨q, hq, e⟩
    refine .inr ⟨(s.S.take (s.sh k)).flatten ++ s.S[s.sh k], (s.S.drop (s.sh k + 1)).flatten, flat_at hj, fun c' => ?_, hno, fun q hq e => ?_⟩
    · rw [flat_set hj]; simp
    · have hfl := flat_at hj
      have hq2 : q ∈ s.chs := by
        show q ∈ s.S.flatten
        rw [hfl]
        exact hq
      obtain ⟨hi, hq3⟩ := h.of_chs hq2
      have hgo : ∀ (k' : Key) (hi : s.sh k' < s.S.length), q ∈ s.S[s.sh k']'hi → k' = k → q ∈ s.S[s.sh k]'hj := fun k' hi hm he => by subst he; exact hm
      exact hno q (hgo q.1 hi hq3 e) e
theorem apart_symm {x y : Key × Ch} (h : ∀ i, x.2.of i → ¬ y.2.of i) : ∀ i, y.2.of i → ¬ x.2.of i := fun i hy hx => h i hx hy
/-- A key's chain, whatever chain it is, apart from the other blocks of the store. -/
theorem StAt.ch_ne (h : StAt w s) {q : Key × Ch} (hq : q ∈ s.chs) {i : Nat} (hi : q.2.of i) : i ≠ s.p ∧ i ≠ s.gs ∧ i ≠ s.mr ∧ i ∉ s.ms := by
  have hc := h.chs q hq
  have hmap : ∀ {K V : Type} {ek : K → Value} {ev : V → Value} {m : Nat} {M : List (K × V)}, MapT ek ev w m M → i ≠ m := fun hm => by
    rcases hi with rfl | hi
    · exact blk_map_ne hc.blk hm
    · exact fun e => own_map_ne hc.row hm (e ▸ hi)
  refine ⟨?_, ?_, hmap h.rd, fun hm => ?_⟩
  · rcases hi with rfl | hi
    · exact blk_ne2 hc.blk h.blk (by decide)
    · exact fun e => own_blk_ne2 hc.row h.blk (by decide) (e ▸ hi)
  · rcases hi with rfl | hi
    · exact blk_ne2 hc.blk h.row (by decide)
    · exact fun e => own_blk_ne2 hc.row h.row (by decide) (e ▸ hi)
  · obtain ⟨j, hj, rfl⟩ := List.getElem_of_mem hm
    exact hmap (h.maps j hj (by rw [h.len]; exact hj)) rfl
/-- A chain turned. -/
theorem StAt.turned (h : StAt w s) {k : Key} {a b P Q : List (Key × Ch)} {c c' : Ch} (hs : s.S[s.sh k]'(h.sh_lt' k) = a ++ (k, c) :: b) (hc : s.chs = P ++ (k, c) :: Q) (hf : (s.S.set (s.sh k) (a ++ (k, c') :: b)).flatten = P ++ (k, c') :: Q)
    (hb : But w w' c.of) (hp : c'.p = c.p) (hch : Chn w' c'.p c'.sv c'.L) (hn : ∀ i, c'.of i → c.of i ∨ w.heap.size ≤ i) :
    StAt w' { s with S := s.S.set (s.sh k) (a ++ (k, c') :: b) } ∧ ∀ i, StV.of { s with S := s.S.set (s.sh k) (a ++ (k, c') :: b) } i → s.of i ∨ w.heap.size ≤ i := by
  have hchs : StV.chs { s with S := s.S.set (s.sh k) (a ++ (k, c') :: b) } = P ++ (k, c') :: Q := hf
  have hmem : (k, c) ∈ s.chs := by rw [hc]; simp
  have hold : ∀ q ∈ P ++ Q, q ∈ s.chs := fun q hq => by
    rw [hc]
    rcases List.mem_append.1 hq with hq | hq
    · exact List.mem_append_left _ hq
    · exact List.mem_append_right _ (List.mem_cons_of_mem _ hq)
  have hmid : ∀ q, q ∈ P ++ (k, c') :: Q → q = (k, c') ∨ q ∈ P ++ Q := fun q hq => by
    rcases List.mem_append.1 hq with hq | hq
    · exact .inr (List.mem_append_left _ hq)
    · rcases List.mem_cons.1 hq with hq | hq
      · exact .inl hq
      · exact .inr (List.mem_append_right _ hq)
  have hap := h.apart
  rw [hc, List.pairwise_middle (fun {_ _} h => apart_symm h), List.pairwise_cons] at hap
  have hne := fun i hi => h.ch_ne hmem (i := i) hi
  have hj := h.sh_lt' k
  have hother : ∀ q ∈ P ++ Q, Chn w' q.2.p q.2.sv q.2.L := fun q hq => (h.chs q (hold q hq)).but hb (fun i hi hci => hap.1 q hq i hci hi)
  refine ⟨⟨h.blk.but hb (fun hi => (hne _ hi).1 rfl), h.row.but hb (fun hi => (hne _ hi).2.1 rfl), h.n1, by rw [List.length_set]; exact h.len, fun i h1 h2 => ?_, h.msn, fun q hq => ?_, fun i hi q hq => ?_, ?_, ?_, h.rd.but hb (fun hi => (hne _ hi).2.2.1 rfl), h.rdn, h.rdk, h.mrn⟩, fun i hi => ?_⟩
  · have h2' : i < s.S.length := by simpa using h2
    have hm := (h.maps i h1 h2').but hb (fun hi => (hne _ hi).2.2.2 (List.getElem_mem h1))
    have he : (s.S.set (s.sh k) (a ++ (k, c') :: b))[i].map (fun q => (q.1, q.2.p)) = s.S[i].map (fun q => (q.1, q.2.p)) := by
      rw [List.getElem_set]
      split
      · rename_i e
        subst e
        rw [hs]
        simp [hp]
      · rfl
    rw [he]
    exact hm
  · rw [hchs] at hq
    rcases hmid q hq with rfl | hq
    · exact hch
    · exact hother q hq
  · have hi' : i < s.S.length := by simpa using hi
    rw [List.getElem_set] at hq
    split at hq
    · rename_i e
      subst e
      rcases List.mem_append.1 hq with hq | hq
      · exact h.shd _ hj q (by rw [hs]; exact List.mem_append_left _ hq)
      · rcases List.mem_cons.1 hq with rfl | hq
        · rfl
        · exact h.shd _ hj q (by rw [hs]; exact List.mem_append_right _ (List.mem_cons_of_mem _ hq))
    · exact h.shd i hi' q hq
  · have hkn := h.kn
    rw [hc] at hkn
    rw [hchs]
    simpa using hkn
  · rw [hchs, List.pairwise_middle (fun {_ _} h => apart_symm h), List.pairwise_cons]
    refine ⟨fun q hq i hi hqi => ?_, hap.2⟩
    rcases hn i hi with h1 | h1
    · exact hap.1 q hq i h1 hqi
    · have := (h.chs q (hold q hq)).of_lt hqi; omega
  · rcases hi with hi | hi | hi | hi | ⟨q, hq, hi⟩
    · exact .inl (.inl hi)
    · exact .inl (.inr (.inl hi))
    · exact .inl (.inr (.inr (.inl hi)))
    · exact .inl (.inr (.inr (.inr (.inl hi))))
    · rw [hchs] at hq
      rcases hmid q hq with rfl | hq
      · exact (hn i hi).imp (fun h1 => .inr (.inr (.inr (.inr ⟨_, hmem, h1⟩)))) (fun h => h)
      · exact .inl (.inr (.inr (.inr (.inr ⟨q, hold q hq, hi⟩))))
theorem rows_turned {P Q : List (Key × Ch)} {k : Key} {c c' : Ch} (hno : ∀ q ∈ P ++ Q, q.1 ≠ k) : (P ++ (k, c') :: Q).map rowOf = mput ((P ++ (k, c) :: Q).map rowOf) k c'.L ∧ getR ((P ++ (k, c) :: Q).map rowOf) k = c.L := by
  have hP : ∀ q ∈ P.map rowOf, q.1 ≠ k := fun q hq => by
    obtain ⟨x, hx, rfl⟩ := List.mem_map.1 hq
    exact hno x (List.mem_append_left _ hx)
  have hQ : ∀ q ∈ Q.map rowOf, q.1 ≠ k := fun q hq => by
    obtain ⟨x, hx, rfl⟩ := List.mem_map.1 hq
    exact hno x (List.mem_append_right _ hx)
  constructor
  · rw [List.map_append, List.map_append, List.map_cons, List.map_cons]
    exact (mput_some hP hQ).symm
  · unfold getR
    rw [List.map_append, List.map_cons]
    rw [show rowOf (k, c) = (k, c.L) from rfl, mget_some hP]
    rfl
theorem rows_none {P Q : List (Key × Ch)} {k : Key} {c' : Ch} (hno : ∀ q ∈ P ++ Q, q.1 ≠ k) : ((P ++ (k, c') :: Q).map rowOf).Perm (mput ((P ++ Q).map rowOf) k c'.L) ∧ getR ((P ++ Q).map rowOf) k = [] := by
  have hPQ : ∀ q ∈ (P ++ Q).map rowOf, q.1 ≠ k := fun q hq => by
    obtain ⟨x, hx, rfl⟩ := List.mem_map.1 hq
    exact hno x hx
  constructor
  · rw [mput_none hPQ, List.map_append, List.map_append, List.map_cons]
    exact List.perm_middle.trans (List.perm_append_singleton _ _).symm
  · unfold getR
    rw [mget_none hPQ]
    rfl
end
end Go.Proofs.YtflkddllofeiaaaGreatDoor
