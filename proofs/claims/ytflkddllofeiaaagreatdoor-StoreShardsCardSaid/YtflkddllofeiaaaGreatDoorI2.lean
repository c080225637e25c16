/- Chains and stores of numbers, part 2 (printed by gen_storei.py). -/
import Derived.Test.YtflkddllofeiaaaGreatDoorI1
import Derived.Deep.RegionHeld3
import Derived.Laws.MakeOwn
namespace Go.Proofs.YtflkddllofeiaaaGreatDoor
set_option linter.unusedVariables false
set_option linter.unusedSimpArgs false
set_option linter.unusedSectionVars false
namespace NI
open Go.RowKit Go.MapKept Go.ChangeMaps Go.Maps

/-- A chain under a key. -/
structure Ch where
  p : Nat
  sv : Value
  L : List VerS
def Ch.of (c : Ch) (i : Nat) : Prop := OfC c.p c.sv i
structure StV where
  p : Nat
  gs : Nat
  mr : Nat
  ms : List Nat
  S : List (List (Key × Ch))
  R : List (Int × Int)
  bg : Nat
def StV.chs (s : StV) : List (Key × Ch) := s.S.flatten
def StV.n (s : StV) : Nat := s.ms.length
/-- The blocks of a store. -/
def StV.of (s : StV) (i : Nat) : Prop := i = s.p ∨ i = s.gs ∨ i = s.mr ∨ i ∈ s.ms ∨ ∃ q ∈ s.chs, q.2.of i
structure StAt (w : World) (s : StV) : Prop where
  blk : Blk w s.p 87 #[.slice (some ⟨s.gs, 0, none⟩) s.n s.n, .map (some s.mr), .int .i64 s.bg]
  row : Blk w s.gs 88 (s.ms.map eM).toArray
  n1 : 1 ≤ s.n ∧ s.n ≤ 64
  len : s.S.length = s.n
  maps : ∀ i (h : i < s.ms.length) (h' : i < s.S.length), MapT eK eP w s.ms[i] (s.S[i].map (fun q => (q.1, q.2.p)))
  msn : s.ms.Nodup
  chs : ∀ q ∈ s.chs, Chn w q.2.p q.2.sv q.2.L
  shd : ∀ i (h : i < s.S.length), ∀ q ∈ s.S[i], shardOf q.1 s.n = i
  kn : (s.chs.map (·.1)).Nodup
  apart : s.chs.Pairwise (fun a b => ∀ i, a.2.of i → ¬ b.2.of i)
  rd : MapT eI eI w s.mr s.R
  rdn : (s.R.map (·.1)).Nodup
  rdk : ∀ q ∈ s.R, wfI q.1 ∧ 1 ≤ q.1 ∧ q.1 ≤ s.bg
  mrn : s.mr ∉ s.ms
section
variable {w w' : World} {s : StV} {S : Nat → Prop}
theorem StAt.but (h : StAt w s) (hb : But w w' S) (hS : ∀ i, s.of i → ¬ S i) : StAt w' s :=
  ⟨h.blk.but hb (hS _ (.inl rfl)), h.row.but hb (hS _ (.inr (.inl rfl))), h.n1, h.len, fun i h1 h2 => (h.maps i h1 h2).but hb (hS _ (.inr (.inr (.inr (.inl (List.getElem_mem h1)))))), h.msn,
    fun q hq => (h.chs q hq).but hb (fun i hi => hS i (.inr (.inr (.inr (.inr ⟨q, hq, hi⟩))))), h.shd, h.kn, h.apart, h.rd.but hb (hS _ (.inr (.inr (.inl rfl)))), h.rdn, h.rdk, h.mrn⟩
theorem StAt.below (h : StAt w s) (hb : Below w.heap.size w w') : StAt w' s := h.but (But.of_below hb (fun _ => False)) (fun _ _ h => h)
theorem StAt.lt (h : StAt w s) {i : Nat} (hi : s.of i) : i < w.heap.size := by
  rcases hi with rfl | rfl | rfl | hi | ⟨q, hq, hi⟩
  · exact h.blk.lt
  · exact h.row.lt
  · exact h.rd.lt
  · obtain ⟨k, hk, rfl⟩ := List.getElem_of_mem hi
    exact (h.maps k hk (by rw [h.len]; exact hk)).lt
  · exact (h.chs q hq).of_lt hi
/-- The shard of a key: its place, its map. -/
def StV.sh (s : StV) (k : Key) : Nat := shardOf k s.n
theorem StAt.sh_lt (h : StAt w s) (k : Key) : s.sh k < s.ms.length := Nat.mod_lt _ h.n1.1
theorem StAt.sh_lt' (h : StAt w s) (k : Key) : s.sh k < s.S.length := by rw [h.len]; exact h.sh_lt k
theorem StAt.mem_chs (h : StAt w s) {i : Nat} (hi : i < s.S.length) {q : Key × Ch} (hq : q ∈ s.S[i]) : q ∈ s.chs := List.mem_flatten.2 ⟨_, List.getElem_mem hi, hq⟩
theorem StAt.of_chs (h : StAt w s) {q : Key × Ch} (hq : q ∈ s.chs) : ∃ hi : s.sh q.1 < s.S.length, q ∈ s.S[s.sh q.1] := by
  obtain ⟨l, hl, hq⟩ := List.mem_flatten.1 hq
  obtain ⟨i, hi, rfl⟩ := List.getElem_of_mem hl
  have := h.shd i hi q hq
  unfold StV.sh
  subst this
  exact ⟨hi, hq⟩
end
open Go.RowKit Go.MapKept Go.ChangeMaps Go.Maps

def StV.map (s : StV) (k : Key) : Nat := s.ms.getD (s.sh k) 0
theorem StAt.map_eq {w : World} {s : StV} (h : StAt w s) (k : Key) : s.map k = s.ms[s.sh k]'(h.sh_lt k) := by
  unfold StV.map
  rw [List.getD_eq_getElem?_getD, List.getElem?_eq_getElem (h.sh_lt k)]
  rfl
theorem StAt.at_ {w : World} {s : StV} (h : StAt w s) (k : Key) : w.cell? ⟨s.gs, s.sh k, none⟩ = some (.map (some (s.map k))) := by
  have := h.row.cell (s.sh k)
  rw [this, h.map_eq]
  have hl := h.sh_lt k
  simp [eM, hl]
set_option maxRecDepth 100000 in
set_option maxHeartbeats 1000000 in
theorem shardS_calls (s : StV) (k : Key) (w : World) (h : StAt w s) : Calls Tryz.prog 83 #[.pointer (some ⟨s.p, 0, none⟩), .agg #[.int .i64 k.acc, .int .i64 k.ast]] w
    fun e w' => e = .returned (.map (some (s.map k))) ∧ Below w.heap.size w w' := by
  have hc := shard_calls k s.n
  rw [cntS_nat h.n1] at hc
  have hb0 : Below w.heap.size w (w.alloc (.cells #[.int .i64 k.acc, .int .i64 k.ast] 33)) := (Below.refl _ _).alloc (Nat.le_refl _) _
  have h1 := h.below hb0
  have p0 : (w.alloc (.cells #[.int .i64 k.acc, .int .i64 k.ast] 33)).cell? ⟨s.p, 0, none⟩ = some (.slice (some ⟨s.gs, 0, none⟩) s.n s.n) := h1.blk.cell 0
  have p1 := h1.at_ k
  have hB := Blk.new w 33 #[.int .i64 k.acc, .int .i64 k.ast]
  have q0 : (w.alloc (.cells #[.int .i64 k.acc, .int .i64 k.ast] 33)).cell? ⟨w.heap.size, 0, none⟩ = some (.int .i64 k.acc) := hB.cell 0
  have q1 : (w.alloc (.cells #[.int .i64 k.acc, .int .i64 k.ast] 33)).cell? ⟨w.heap.size, 1, none⟩ = some (.int .i64 k.ast) := hB.cell 1
  have hl := h.sh_lt k
  have hlt : ((s.sh k : Nat) : Int) < s.n := by unfold StV.n; omega
  have hsh : shardOf k s.n = s.sh k := rfl
  rw [hsh] at hc
  obtain ⟨j, hj⟩ : ∃ j, s.sh k = j := ⟨_, rfl⟩
  obtain ⟨n, hn⟩ : ∃ n, s.n = n := ⟨_, rfl⟩
  obtain ⟨m, hm⟩ : ∃ m, s.map k = m := ⟨_, rfl⟩
  rw [hm] at p1 ⊢
  rw [hn] at p0 hlt hc
  rw [hj] at p1 hlt hc
  obtain ⟨W, hW⟩ : ∃ X, w.alloc (.cells #[.int .i64 k.acc, .int .i64 k.ast] 33) = X := ⟨_, rfl⟩
  obtain ⟨g, hg⟩ : ∃ g, w.heap.size = g := ⟨_, rfl⟩
  rw [hW] at p0 p1 q0 q1 hb0
  rw [hg] at q0 q1
  have HC := Lib.hid hc
  have HB0 := Lib.hid hb0
  have HW := Lib.hid hW
  have HG := Lib.hid hg
  clear hc hb0 h1 hB hl hsh hj hn hm hW hg h
  go_enter Tryz.func83, Tryz.ntmps83
  go_wp2_with (fail)
  rw [HW.out, HG.out]
  go_region_held3 (fun w' => w'.cell? ⟨g, 0, none⟩ = some (.int .i64 k.acc) ∧ w'.cell? ⟨g, 1, none⟩ = some (.int .i64 k.ast) ∧ w'.cell? ⟨s.p, 0, none⟩ = some (.slice (some ⟨s.gs, 0, none⟩) n n) ∧ w'.cell? ⟨s.gs, j, none⟩ = some (.map (some m)))
    (first | go_keep | fail)
    ((go_at_call 51; refine (HC.out _).mono ?_; rintro e w4 ⟨rfl, hb4⟩; have r0 : w4.cell? ⟨g, 0, none⟩ = some (.int .i64 k.acc) := cell_below (w := W.drew) hb4 q0; have r1 : w4.cell? ⟨g, 1, none⟩ = some (.int .i64 k.ast) := cell_below (w := W.drew) hb4 q1; have r2 : w4.cell? ⟨s.p, 0, none⟩ = some (.slice (some ⟨s.gs, 0, none⟩) n n) := cell_below (w := W.drew) hb4 p0; have r3 : w4.cell? ⟨s.gs, j, none⟩ = some (.map (some m)) := cell_below (w := W.drew) hb4 p1; have HB4 := Lib.hid hb4; clear hb4))
  go_wp2
  go_ret
  have hb1 : Below W.heap.size W w4 := (Below.refl _ _).drew.trans HB4.out
  rw [HG.out]
  have hb0 := HB0.out
  rw [HG.out] at hb0
  exact ⟨rfl, hb0.trans (hb1.mono (by have := HB0.out.size; rw [HG.out] at this; exact this))⟩
open Go.RowKit Go.MapKept Go.ChangeMaps Go.Maps

theorem infoSMap : (Tryz.prog.info? 88).map (fun i => (i.zero, i.size, i.bytes)) = some (some (.map none), 1, 8) := by kernel_rfl
/-- A store of which k shards are laid. -/
structure NewR (w0 w : World) (p gs mr n k : Nat) (ms : List Nat) (cs : Array Value) : Prop where
  blk : Blk w p 87 #[.slice (some ⟨gs, 0, none⟩) n n, .map (some mr), .int .i64 0]
  row : Blk w gs 88 cs
  size : cs.size = n
  pre : ∀ i (h : i < ms.length), cs[i]? = some (eM ms[i])
  len : ms.length = k
  maps : ∀ m ∈ ms, MapT eK eP w m ([] : List (Key × Nat))
  msn : ms.Nodup
  rd : MapT eI eI w mr ([] : List (Int × Int))
  mrn : mr ∉ ms
  low : w0.heap.size ≤ p ∧ w0.heap.size ≤ gs ∧ w0.heap.size ≤ mr ∧ ∀ m ∈ ms, w0.heap.size ≤ m
  bel : Below w0.heap.size w0 w
theorem NewR.step {w0 w : World} {p gs mr n k : Nat} {ms : List Nat} {cs : Array Value} (h : NewR w0 w p gs mr n k ms cs) (hk : k < n) :
    NewR w0 ((w.alloc (.map #[] 0)).setCell ⟨gs, k, none⟩ (.map (some w.heap.size))) p gs mr n (k + 1) (ms ++ [w.heap.size]) (cs.setIfInBounds k (.map (some w.heap.size))) := by
  have hb1 : Below w.heap.size w (w.alloc (.map #[] 0)) := (Below.refl _ _).alloc (Nat.le_refl _) _
  have hb : But w ((w.alloc (.map #[] 0)).setCell ⟨gs, k, none⟩ (.map (some w.heap.size))) (fun i => i = gs) := (But.of_below hb1 (fun i => i = gs)).setCell (p := ⟨gs, k, none⟩) (fun _ => rfl) _
  have hnew := MapT.new w eK eP
  have hg : gs < w.heap.size := h.row.lt
  have hb2 : But (w.alloc (.map #[] 0)) ((w.alloc (.map #[] 0)).setCell ⟨gs, k, none⟩ (.map (some w.heap.size))) (fun i => i = gs) := (But.refl _ (fun i => i = gs)).setCell (p := ⟨gs, k, none⟩) (fun _ => rfl) _
  have hm : ∀ m ∈ ms, m < w.heap.size := fun m hm => (h.maps m hm).lt
  refine ⟨h.blk.but hb (blk_ne2 h.blk h.row (by decide)), ?_, by simpa using h.size, fun i hi => ?_, by simp [h.len], fun m hmm => ?_, ?_, h.rd.but hb (fun e => blk_map_ne h.row h.rd e.symm), ?_, ⟨h.low.1, h.low.2.1, h.low.2.2.1, fun m hmm => ?_⟩, h.bel.trans (hb.to_below (fun i e => e ▸ h.low.2.1) h.bel.size)⟩
  · exact (h.row.below hb1 hg).set_ k _
  · by_cases hl : i < ms.length
    · rw [List.getElem_append_left hl, Array.getElem?_setIfInBounds_ne (by rw [← h.len]; omega)]
      exact h.pre i hl
    · obtain rfl : i = k := by have := h.len; simp at hi; omega
      rw [Array.getElem?_setIfInBounds_self_of_lt (by rw [h.size]; exact hk)]
      have hl := h.len
      subst hl
      simp [eM]
  · rcases List.mem_append.1 hmm with hmm | hmm
    · exact (h.maps m hmm).but hb (fun e => blk_map_ne h.row (h.maps m hmm) e.symm)
    · rw [List.mem_singleton.1 hmm]
      exact hnew.but hb2 (by omega)
  · rw [List.nodup_append]
    exact ⟨h.msn, by simp, fun a ha b hb => by have := hm a ha; rw [List.mem_singleton.1 hb]; omega⟩
  · intro hmm
    rcases List.mem_append.1 hmm with hmm | hmm
    · exact h.mrn hmm
    · have := h.rd.lt; rw [List.mem_singleton.1 hmm] at this; omega
  · rcases List.mem_append.1 hmm with hmm | hmm
    · exact h.low.2.2.2 m hmm
    · rw [List.mem_singleton.1 hmm]; exact h.bel.size
theorem NewR.done {w0 w : World} {p gs mr n : Nat} {ms : List Nat} {cs : Array Value} (h : NewR w0 w p gs mr n n ms cs) (hn : 1 ≤ n ∧ n ≤ 64) :
    StAt w ⟨p, gs, mr, ms, List.replicate n [], [], 0⟩ ∧ ∀ i, StV.of ⟨p, gs, mr, ms, List.replicate n [], [], 0⟩ i → w0.heap.size ≤ i := by
  have hcs : cs = (ms.map eM).toArray := by
    apply Array.ext_getElem?
    intro i
    by_cases hi : i < ms.length
    · rw [h.pre i hi]; simp [hi]
    · rw [Array.getElem?_eq_none (by rw [h.size, ← h.len]; omega)]
      simp [Nat.le_of_not_lt hi]
  have hch : StV.chs ⟨p, gs, mr, ms, List.replicate n [], [], 0⟩ = [] := by unfold StV.chs; exact replicate_flat n
  have hsn : StV.n ⟨p, gs, mr, ms, List.replicate n [], [], 0⟩ = n := h.len
  refine ⟨⟨?_, hcs ▸ h.row, by rw [hsn]; exact hn, by rw [hsn]; simp, fun i h1 h2 => ?_, h.msn, (fun q hq => by rw [hch] at hq; cases hq), (fun i hi q hq => by simp at hq), (by rw [hch]; exact List.nodup_nil), (by rw [hch]; exact List.Pairwise.nil), h.rd, List.nodup_nil, (fun q hq => by cases hq), h.mrn⟩, ?_⟩
  · rw [hsn]; exact h.blk
  · have := h.maps _ (List.getElem_mem h1)
    simpa using this
  · rintro i (rfl | rfl | rfl | hi | ⟨q, hq, _⟩)
    · exact h.low.1
    · exact h.low.2.1
    · exact h.low.2.2.1
    · exact h.low.2.2.2 i hi
    · rw [hch] at hq; cases hq
/-- What New answers. -/
def NewQ (w : World) (n : Nat) (e : Ending) (w' : World) : Prop := ∃ s : StV, e = .returned (.pointer (some ⟨s.p, 0, none⟩)) ∧ StAt w' s ∧ s.n = n ∧ s.chs = [] ∧ s.R = [] ∧ s.bg = 0 ∧ Below w.heap.size w w' ∧ ∀ i, s.of i → w.heap.size ≤ i
set_option maxRecDepth 100000 in
set_option maxHeartbeats 2000000 in
theorem newS_calls (x : Int) (w : World) : Calls Tryz.prog 21 #[.int .i64 x] w (NewQ w (cntS x)) := by
  have hcc := counted_calls x
  have hc := cntS_pos x
  obtain ⟨n, hn⟩ : ∃ n, cntS x = n := ⟨_, rfl⟩
  simp only [hn] at hcc hc ⊢
  have HCC := Lib.hid hcc
  clear hcc hn
  have hmm := @run_makeMap Tryz.prog
  obtain ⟨i0, hi0, hz0, hz1, hz2⟩ := info_parts infoSMap
  have hms : (Instr.makeSlice 85 (.int .i64 (n : Int)) (.int .i64 (n : Int))).run Tryz.prog w = .ok (.slice (some ⟨w.heap.size, 0, none⟩) n n) (w.alloc (.cells (madeCells (Value.map none).cells (n * 1)) 88)) := by
    have := run_makeSlice (P := Tryz.prog) w 85 88 i0 (.map none) Tryz.underlying85 hi0 hz0 .i64 .i64 n n (by omega) (by omega) (by simp [hz1]; omega) (by rw [hz2]; omega) (by omega)
    simpa [hz1] using this
  obtain ⟨Z, hZ⟩ : ∃ Z, madeCells (Value.map none).cells (n * 1) = Z := ⟨_, rfl⟩
  have hZs : Z.size = n := by rw [← hZ, size_madeCells]; omega
  rw [hZ] at hms
  clear hZ
  have hbel : ∀ o1 o2 o3 : Obj, Below w.heap.size w (((w.alloc o1).alloc o2).alloc o3) := fun o1 o2 o3 => (((Below.refl _ _).alloc (Nat.le_refl _) _).alloc (by simp) _).alloc (by simp; omega) _
  have hst : NewR w (((w.alloc (.cells Z 88)).alloc (.map #[] 0)).alloc (.cells #[.slice (some ⟨w.heap.size, 0, none⟩) n n, .map (some (w.heap.size + 1)), .int .i64 0] 87)) (w.heap.size + 1 + 1) w.heap.size (w.heap.size + 1) n 0 [] Z := by
    have s1 : ∀ (v : World) (o : Obj), (v.alloc o).heap.size = v.heap.size + 1 := fun v o => by simp
    have b0 := Blk.new w 88 Z
    have m0 := MapT.new (w.alloc (.cells Z 88)) eI eI
    have b := Blk.new ((w.alloc (.cells Z 88)).alloc (.map #[] 0)) 87 #[.slice (some ⟨w.heap.size, 0, none⟩) n n, .map (some (w.heap.size + 1)), .int .i64 0]
    rw [s1] at m0
    rw [s1, s1] at b
    have al : ∀ {v : World} {o : Obj}, Below v.heap.size v (v.alloc o) := fun {v o} => (Below.refl _ _).alloc (Nat.le_refl _) _
    exact ⟨b, (b0.below al b0.lt).below al (b0.below al b0.lt).lt, hZs, fun i h => by simp at h, rfl, fun m hm => by simp at hm, by simp, m0.below al, by simp, ⟨by omega, by omega, by omega, fun m hm => by simp at hm⟩, hbel _ _ _⟩
  have HST := Lib.hid hst
  have HMS := Lib.hid hms
  clear hst hbel hZs hz0 hz1 hz2 hi0
  go_enter Tryz.func21, Tryz.ntmps21
  go_wp2_with (fail)
  refine (HCC.out w).mono ?_
  rintro e w ⟨rfl, rfl⟩
  have hms := HMS.out
  go_wp2_with (fail)
  clear hms
  go_loopw [16] (fun i wr => ∃ (k : Nat) (ms : List Nat) (cs : Array Value), k ≤ n ∧ i = .int .i64 k ∧ NewR w wr (w.heap.size + 1 + 1) w.heap.size (w.heap.size + 1) n k ms cs) (fun i _ => n - (intOf i).toNat)
  case atStart => exact ⟨0, [], Z, by omega, rfl, HST.out⟩
  case round =>
    obtain ⟨k, ms, cs, hk, rfl, hR⟩ := hrel
    by_cases hlt : k < n
    · have hkl : (k : Int) < n := by omega
      have c0 : wr.cell? ⟨w.heap.size + 1 + 1, 0, none⟩ = some (.slice (some ⟨w.heap.size, 0, none⟩) n n) := hR.blk.cell 0
      have hcs : k < cs.size := by rw [hR.size]; exact hlt
      have c1 : wr.cell? ⟨w.heap.size, k, none⟩ = some cs[k] := (hR.row.cell k).trans (by simp [hcs])
      have hrow2 := hR.row.below (w' := wr.alloc (.map #[] 0)) ((Below.refl _ _).alloc (Nat.le_refl _) _) hR.row.lt
      have c2 : (wr.alloc (.map #[] 0)).cell? ⟨w.heap.size, k, none⟩ = some cs[k] := (hrow2.cell k).trans (by simp [hcs])
      have f2 : (wr.alloc (.map #[] 0)).frozen? ⟨w.heap.size, k, none⟩ = false := hrow2.frozen k
      have hlow := hR.bel.size
      have HR := Lib.hid (hR.step hlt)
      clear hR hrow2
      go_wp2_with (fail)
      go_roundw
      case rel => exact ⟨k + 1, _, _, by omega, by go_num, HR.out⟩
      case measure => simp [intOf]; omega
    · obtain rfl : k = n := by omega
      have hd := hR.done hc
      have HD := Lib.hid (show NewQ w k (.returned (.pointer (some ⟨w.heap.size + 1 + 1, 0, none⟩))) wr from ⟨_, rfl, hd.1, hR.len, by unfold StV.chs; exact replicate_flat k, rfl, rfl, hR.bel, hd.2⟩)
      clear hd hR
      go_wp2
      go_ret
      exact HD.out
open Go.RowKit Go.MapKept Go.ChangeMaps Go.Maps

/-- The versions under each key. -/
def rowOf (q : Key × Ch) : Key × List VerS := (q.1, q.2.L)
def StV.rows (s : StV) : List (Key × List VerS) := s.chs.map rowOf
def getR (M : List (Key × List VerS)) (k : Key) : List VerS := (mget M k).getD []
section
variable {w w' : World} {s : StV} {S : Nat → Prop}
/-- A key stands at one place, or nowhere. -/
theorem StAt.cases (h : StAt w s) (k : Key) :
    (∃ a c b P Q, s.S[s.sh k]'(h.sh_lt' k) = a ++ (k, c) :: b ∧ s.chs = P ++ (k, c) :: Q ∧ (∀ c', (s.S.set (s.sh k) (a ++ (k, c') :: b)).flatten = P ++ (k, c') :: Q) ∧ (∀ q ∈ a ++ b, q.1 ≠ k) ∧ (∀ q ∈ P ++ Q, q.1 ≠ k)) ∨
    (∃ P Q, s.chs = P ++ Q ∧ (∀ c', (s.S.set (s.sh k) (s.S[s.sh k]'(h.sh_lt' k) ++ [(k, c')])).flatten = P ++ (k, c') :: Q) ∧ (∀ q ∈ s.S[s.sh k]'(h.sh_lt' k), q.1 ≠ k) ∧ (∀ q ∈ P ++ Q, q.1 ≠ k)) := by
  have hj := h.sh_lt' k
  by_cases hk : ∃ q ∈ s.S[s.sh k], q.1 = k
  · obtain ⟨⟨k', c⟩, hq, rfl⟩ := hk
    obtain ⟨a, b, hab⟩ := List.append_of_mem hq
    have hfl : s.chs = ((s.S.take (s.sh k')).flatten ++ a) ++ (k', c) :: (b ++ (s.S.drop (s.sh k' + 1)).flatten) := by
      unfold StV.chs
      rw [flat_at hj, hab]
      simp
    have hkn := h.kn
    rw [hfl, List.map_append, List.map_cons, nodup_mid] at hkn
    have hno : ∀ q ∈ ((s.S.take (s.sh k')).flatten ++ a) ++ (b ++ (s.S.drop (s.sh k' + 1)).flatten), q.1 ≠ k' := fun q hq e => hkn.1 (by
      rw [← List.map_append]
      exact List.mem_map.2 ⟨q, hq, e⟩)
    refine .inl ⟨a, c, b, _, _, hab, hfl, fun c' => ?_, fun q hq => hno q ?_, hno⟩
    · rw [flat_set hj]; simp
    · rcases List.mem_append.1 hq with hq | hq
      · exact List.mem_append_left _ (List.mem_append_right _ hq)
      · exact List.mem_append_right _ (List.mem_append_left _ hq)
  · have hno : ∀ q ∈ s.S[s.sh k], q.1 ≠ k := fun q hq e => hk ⟨q, hq, e⟩
    refine .inr ⟨(s.S.take (s.sh k)).flatten ++ s.S[s.sh k], (s.S.drop (s.sh k + 1)).flatten, flat_at hj, fun c' => ?_, hno, fun q hq e => ?_⟩
    · rw [flat_set hj]; simp
    · have hfl := flat_at hj
      have hq2 : q ∈ s.chs := by
        show q ∈ s.S.flatten
        rw [hfl]
        exact hq
      obtain ⟨hi, hq3⟩ := h.of_chs hq2
      have hgo : ∀ (k' : Key) (hi : s.sh k' < s.S.length), q ∈ s.S[s.sh k']'hi → k' = k → q ∈ s.S[s.sh k]'hj := fun k' hi hm he => by subst he; exact hm
      exact hno q (hgo q.1 hi hq3 e) e
theorem apart_symm {x y : Key × Ch} (h : ∀ i, x.2.of i → ¬ y.2.of i) : ∀ i, y.2.of i → ¬ x.2.of i := fun i hy hx => h i hx hy
/-- A key's chain, whatever chain it is, apart from the other blocks of the store. -/
theorem StAt.ch_ne (h : StAt w s) {q : Key × Ch} (hq : q ∈ s.chs) {i : Nat} (hi : q.2.of i) : i ≠ s.p ∧ i ≠ s.gs ∧ i ≠ s.mr ∧ i ∉ s.ms := by
  have hc := h.chs q hq
  have hmap : ∀ {K V : Type} {ek : K → Value} {ev : V → Value} {m : Nat} {M : List (K × V)}, MapT ek ev w m M → i ≠ m := fun hm => by
    rcases hi with rfl | hi
    · exact blk_map_ne hc.blk hm
    · exact fun e => own_map_ne hc.row hm (e ▸ hi)
  refine ⟨?_, ?_, hmap h.rd, fun hm => ?_⟩
  · rcases hi with rfl | hi
    · exact blk_ne2 hc.blk h.blk (by decide)
    · exact fun e => own_blk_ne2 hc.row h.blk (by decide) (e ▸ hi)
  · rcases hi with rfl | hi
    · exact blk_ne2 hc.blk h.row (by decide)
    · exact fun e => own_blk_ne2 hc.row h.row (by decide) (e ▸ hi)
  · obtain ⟨j, hj, rfl⟩ := List.getElem_of_mem hm
    exact hmap (h.maps j hj (by rw [h.len]; exact hj)) rfl
/-- A chain turned. -/
theorem StAt.turned (h : StAt w s) {k : Key} {a b P Q : List (Key × Ch)} {c c' : Ch} (hs : s.S[s.sh k]'(h.sh_lt' k) = a ++ (k, c) :: b) (hc : s.chs = P ++ (k, c) :: Q) (hf : (s.S.set (s.sh k) (a ++ (k, c') :: b)).flatten = P ++ (k, c') :: Q)
    (hb : But w w' c.of) (hp : c'.p = c.p) (hch : Chn w' c'.p c'.sv c'.L) (hn : ∀ i, c'.of i → c.of i ∨ w.heap.size ≤ i) :
    StAt w' { s with S := s.S.set (s.sh k) (a ++ (k, c') :: b) } ∧ ∀ i, StV.of { s with S := s.S.set (s.sh k) (a ++ (k, c') :: b) } i → s.of i ∨ w.heap.size ≤ i := by
  have hchs : StV.chs { s with S := s.S.set (s.sh k) (a ++ (k, c') :: b) } = P ++ (k, c') :: Q := hf
  have hmem : (k, c) ∈ s.chs := by rw [hc]; simp
  have hold : ∀ q ∈ P ++ Q, q ∈ s.chs := fun q hq => by
    rw [hc]
    rcases List.mem_append.1 hq with hq | hq
    · exact List.mem_append_left _ hq
    · exact List.mem_append_right _ (List.mem_cons_of_mem _ hq)
  have hmid : ∀ q, q ∈ P ++ (k, c') :: Q → q = (k, c') ∨ q ∈ P ++ Q := fun q hq => by
    rcases List.mem_append.1 hq with hq | hq
    · exact .inr (List.mem_append_left _ hq)
    · rcases List.mem_cons.1 hq with hq | hq
      · exact .inl hq
      · exact .inr (List.mem_append_right _ hq)
  have hap := h.apart
  rw [hc, List.pairwise_middle (fun {_ _} h => apart_symm h), List.pairwise_cons] at hap
  have hne := fun i hi => h.ch_ne hmem (i := i) hi
  have hj := h.sh_lt' k
  have hother : ∀ q ∈ P ++ Q, Chn w' q.2.p q.2.sv q.2.L := fun q hq => (h.chs q (hold q hq)).but hb (fun i hi hci => hap.1 q hq i hci hi)
  refine ⟨⟨h.blk.but hb (fun hi => (hne _ hi).1 rfl), h.row.but hb (fun hi => (hne _ hi).2.1 rfl), h.n1, by rw [List.length_set]; exact h.len, fun i h1 h2 => ?_, h.msn, fun q hq => ?_, fun i hi q hq => ?_, ?_, ?_, h.rd.but hb (fun hi => (hne _ hi).2.2.1 rfl), h.rdn, h.rdk, h.mrn⟩, fun i hi => ?_⟩
  · have h2' : i < s.S.length := by simpa using h2
    have hm := (h.maps i h1 h2').but hb (fun hi => (hne _ hi).2.2.2 (List.getElem_mem h1))
    have he : (s.S.set (s.sh k) (a ++ (k, c') :: b))[i].map (fun q => (q.1, q.2.p)) = s.S[i].map (fun q => (q.1, q.2.p)) := by
      rw [List.getElem_set]
      split
      · rename_i e
        subst e
        rw [hs]
        simp [hp]
      · rfl
    rw [he]
    exact hm
  · rw [hchs] at hq
    rcases hmid q hq with rfl | hq
    · exact hch
    · exact hother q hq
  · have hi' : i < s.S.length := by simpa using hi
    rw [List.getElem_set] at hq
    split at hq
    · rename_i e
      subst e
      rcases List.mem_append.1 hq with hq | hq
      · exact h.shd _ hj q (by rw [hs]; exact List.mem_append_left _ hq)
      · rcases List.mem_cons.1 hq with rfl | hq
        · rfl
        · exact h.shd _ hj q (by rw [hs]; exact List.mem_append_right _ (List.mem_cons_of_mem _ hq))
    · exact h.shd i hi' q hq
  · have hkn := h.kn
    rw [hc] at hkn
    rw [hchs]
    simpa using hkn
  · rw [hchs, List.pairwise_middle (fun {_ _} h => apart_symm h), List.pairwise_cons]
    refine ⟨fun q hq i hi hqi => ?_, hap.2⟩
    rcases hn i hi with h1 | h1
    · exact hap.1 q hq i h1 hqi
    · have := (h.chs q (hold q hq)).of_lt hqi; omega
  · rcases hi with hi | hi | hi | hi | ⟨q, hq, hi⟩
    · exact .inl (.inl hi)
    · exact .inl (.inr (.inl hi))
    · exact .inl (.inr (.inr (.inl hi)))
    · exact .inl (.inr (.inr (.inr (.inl hi))))
    · rw [hchs] at hq
      rcases hmid q hq with rfl | hq
      · exact (hn i hi).imp (fun h1 => .inr (.inr (.inr (.inr ⟨_, hmem, h1⟩)))) (fun h => h)
      · exact .inl (.inr (.inr (.inr (.inr ⟨q, hold q hq, hi⟩))))
theorem rows_turned {P Q : List (Key × Ch)} {k : Key} {c c' : Ch} (hno : ∀ q ∈ P ++ Q, q.1 ≠ k) : (P ++ (k, c') :: Q).map rowOf = mput ((P ++ (k, c) :: Q).map rowOf) k c'.L ∧ getR ((P ++ (k, c) :: Q).map rowOf) k = c.L := by
  have hP : ∀ q ∈ P.map rowOf, q.1 ≠ k := fun q hq => by
    obtain ⟨x, hx, rfl⟩ := List.mem_map.1 hq
    exact hno x (List.mem_append_left _ hx)
  have hQ : ∀ q ∈ Q.map rowOf, q.1 ≠ k := fun q hq => by
    obtain ⟨x, hx, rfl⟩ := List.mem_map.1 hq
    exact hno x (List.mem_append_right _ hx)
  constructor
  · rw [List.map_append, List.map_append, List.map_cons, List.map_cons]
    exact (mput_some hP hQ).symm
  · unfold getR
    rw [List.map_append, List.map_cons]
    rw [show rowOf (k, c) = (k, c.L) from rfl, mget_some hP]
    rfl
theorem rows_none {P Q : List (Key × Ch)} {k : Key} {c' : Ch} (hno : ∀ q ∈ P ++ Q, q.1 ≠ k) : ((P ++ (k, c') :: Q).map rowOf).Perm (mput ((P ++ Q).map rowOf) k c'.L) ∧ getR ((P ++ Q).map rowOf) k = [] := by
  have hPQ : ∀ q ∈ (P ++ Q).map rowOf, q.1 ≠ k := fun q hq => by
    obtain ⟨x, hx, rfl⟩ := List.mem_map.1 hq
    exact hno x hx
  constructor
  · rw [mput_none hPQ, List.map_append, List.map_append, List.map_cons]
    exact List.perm_middle.trans (List.perm_append_singleton _ _).symm
  · unfold getR
    rw [mget_none hPQ]
    rfl
end
open Go.RowKit Go.MapKept Go.ChangeMaps Go.Maps

section
variable {w w' w1 w2 : World} {s : StV} {S : Nat → Prop}
theorem StAt.map_at (h : StAt w s) (k : Key) : MapT eK eP w (s.map k) ((s.S[s.sh k]'(h.sh_lt' k)).map (fun q => (q.1, q.2.p))) := by
  rw [h.map_eq]
  exact h.maps _ (h.sh_lt k) (h.sh_lt' k)
theorem StAt.map_mem (h : StAt w s) (k : Key) : s.map k ∈ s.ms := by rw [h.map_eq]; exact List.getElem_mem _
theorem kp_none {l : List (Key × Ch)} {k : Key} (h : ∀ q ∈ l, q.1 ≠ k) : ∀ q ∈ l.map (fun q => (q.1, q.2.p)), q.1 ≠ k := fun q hq => by
  obtain ⟨x, hx, rfl⟩ := List.mem_map.1 hq
  exact h x hx
theorem StAt.look_some (h : StAt w s) {k : Key} {a b : List (Key × Ch)} {c : Ch} (hs : s.S[s.sh k]'(h.sh_lt' k) = a ++ (k, c) :: b) (hno : ∀ q ∈ a ++ b, q.1 ≠ k) (o : Bool) :
    (Instr.lookup 88 (.map (some (s.map k))) (.agg #[.int .i64 k.acc, .int .i64 k.ast]) o).run Tryz.prog w = .ok (if o then .tuple #[.pointer (some ⟨c.p, 0, none⟩), .bool true] else .pointer (some ⟨c.p, 0, none⟩)) w := by
  have h1 := (h.map_at k).look (P := Tryz.prog) (keyE_key w) (fun _ _ => trivial) (x := k) trivial Tryz.underlying88 (z := .pointer none) (by kernel_rfl) o
  have h2 : mget ((s.S[s.sh k]'(h.sh_lt' k)).map (fun q => (q.1, q.2.p))) k = some c.p := by
    rw [hs, List.map_append, List.map_cons]
    exact mget_some (kp_none (fun q hq => hno q (List.mem_append_left _ hq)))
  rw [h2] at h1
  exact h1
theorem StAt.look_none (h : StAt w s) {k : Key} (hno : ∀ q ∈ s.S[s.sh k]'(h.sh_lt' k), q.1 ≠ k) (o : Bool) :
    (Instr.lookup 88 (.map (some (s.map k))) (.agg #[.int .i64 k.acc, .int .i64 k.ast]) o).run Tryz.prog w = .ok (if o then .tuple #[.pointer none, .bool false] else .pointer none) w := by
  have h1 := (h.map_at k).look (P := Tryz.prog) (keyE_key w) (fun _ _ => trivial) (x := k) trivial Tryz.underlying88 (z := .pointer none) (by kernel_rfl) o
  rw [mget_none (kp_none hno)] at h1
  exact h1
/-- A chain put in under a new key. -/
theorem StAt.added (h : StAt w s) {k : Key} {P Q : List (Key × Ch)} {c' : Ch} (hc : s.chs = P ++ Q) (hf : (s.S.set (s.sh k) (s.S[s.sh k]'(h.sh_lt' k) ++ [(k, c')])).flatten = P ++ (k, c') :: Q) (hno : ∀ q ∈ P ++ Q, q.1 ≠ k)
    (hb : But w w' (fun i => i = s.map k)) (hm : MapT eK eP w' (s.map k) ((s.S[s.sh k]'(h.sh_lt' k)).map (fun q => (q.1, q.2.p)) ++ [(k, c'.p)])) (hch : Chn w' c'.p c'.sv c'.L) (hn : ∀ i, c'.of i → w.heap.size ≤ i) :
    StAt w' { s with S := s.S.set (s.sh k) (s.S[s.sh k]'(h.sh_lt' k) ++ [(k, c')]) } ∧ ∀ i, StV.of { s with S := s.S.set (s.sh k) (s.S[s.sh k]'(h.sh_lt' k) ++ [(k, c')]) } i → s.of i ∨ w.heap.size ≤ i := by
  have hchs : StV.chs { s with S := s.S.set (s.sh k) (s.S[s.sh k]'(h.sh_lt' k) ++ [(k, c')]) } = P ++ (k, c') :: Q := hf
  have hold : ∀ q ∈ P ++ Q, q ∈ s.chs := fun q hq => by rw [hc]; exact hq
  have hmid : ∀ q, q ∈ P ++ (k, c') :: Q → q = (k, c') ∨ q ∈ P ++ Q := fun q hq => by
    rcases List.mem_append.1 hq with hq | hq
    · exact .inr (List.mem_append_left _ hq)
    · rcases List.mem_cons.1 hq with hq | hq
      · exact .inl hq
      · exact .inr (List.mem_append_right _ hq)
  have hj := h.sh_lt' k
  have hother : ∀ q ∈ P ++ Q, Chn w' q.2.p q.2.sv q.2.L := fun q hq => (h.chs q (hold q hq)).but hb (fun i hi e => (h.ch_ne (hold q hq) hi).2.2.2 (e ▸ h.map_mem k))
  have hmk := h.map_at k
  refine ⟨⟨h.blk.but hb (blk_map_ne h.blk hmk), h.row.but hb (blk_map_ne h.row hmk), h.n1, by rw [List.length_set]; exact h.len, fun i h1 h2 => ?_, h.msn, fun q hq => ?_, fun i hi q hq => ?_, ?_, ?_, h.rd.but hb (fun e => h.mrn (e ▸ h.map_mem k)), h.rdn, h.rdk, h.mrn⟩, fun i hi => ?_⟩
  · have h2' : i < s.S.length := by simpa using h2
    by_cases he : i = s.sh k
    · subst he
      rw [List.getElem_set_self, List.map_append, ← h.map_eq]
      exact hm
    · rw [List.getElem_set_ne (Ne.symm he)]
      refine (h.maps i h1 h2').but hb (fun e => he ?_)
      rw [h.map_eq] at e
      exact (List.getElem_inj h.msn).1 e
  · rw [hchs] at hq
    rcases hmid q hq with rfl | hq
    · exact hch
    · exact hother q hq
  · have hi' : i < s.S.length := by simpa using hi
    rw [List.getElem_set] at hq
    split at hq
    · rename_i e
      subst e
      rcases List.mem_append.1 hq with hq | hq
      · exact h.shd _ hj q hq
      · rw [List.mem_singleton.1 hq]; rfl
    · exact h.shd i hi' q hq
  · have hkn := h.kn
    rw [hc] at hkn
    rw [hchs, List.map_append, List.map_cons, nodup_mid, ← List.map_append]
    exact ⟨fun hx => by obtain ⟨q, hq, e⟩ := List.mem_map.1 hx; exact hno q hq e, hkn⟩
  · have hap := h.apart
    rw [hc] at hap
    rw [hchs, List.pairwise_middle (fun {_ _} h => apart_symm h), List.pairwise_cons]
    exact ⟨fun q hq i hi hqi => by have h1 := hn i hi; have h2 := (h.chs q (hold q hq)).of_lt hqi; omega, hap⟩
  · rcases hi with hi | hi | hi | hi | ⟨q, hq, hi⟩
    · exact .inl (.inl hi)
    · exact .inl (.inr (.inl hi))
    · exact .inl (.inr (.inr (.inl hi)))
    · exact .inl (.inr (.inr (.inr (.inl hi))))
    · rw [hchs] at hq
      rcases hmid q hq with rfl | hq
      · exact .inr (hn i hi)
      · exact .inl (.inr (.inr (.inr (.inr ⟨q, hold q hq, hi⟩))))
end
/-- What Put answers and leaves. -/
structure PutS (w w' : World) (s s' : StV) (k : Key) (n : Int) (v : Int) : Prop where
  at_ : StAt w' s'
  en : s'.n = s.n
  ep : s'.p = s.p
  eR : s'.R = s.R
  ebg : s'.bg = s.bg
  yes : mayPut (getR s.rows k) n = true → s'.rows.Perm (mput s.rows k (getR s.rows k ++ [⟨n, v⟩]))
  no : mayPut (getR s.rows k) n = false → s'.rows = s.rows
  but : But w w' s.of
  new : ∀ i, s'.of i → s.of i ∨ w.heap.size ≤ i
def PutSQ (w : World) (s : StV) (k : Key) (n : Int) (v : Int) (e : Ending) (w' : World) : Prop := ∃ s', e = .returned (errV (putE (getR s.rows k) n)) ∧ PutS w w' s s' k n v
set_option maxRecDepth 100000 in
set_option maxHeartbeats 2000000 in
theorem putS_calls (s : StV) (k : Key) (n : Int) (v : Int) (w : World) (h : StAt w s) (hlen : (getR s.rows k).length < 9382499223000) :
    Calls Tryz.prog 56 #[.pointer (some ⟨s.p, 0, none⟩), .agg #[.int .i64 k.acc, .int .i64 k.ast], .int .i64 n, .int .i64 v] w (PutSQ w s k n v) := by
  have hb0 : Below w.heap.size w (w.alloc (.cells #[.int .i64 k.acc, .int .i64 k.ast] 33)) := (Below.refl _ _).alloc (Nat.le_refl _) _
  have hB := Blk.new w 33 #[.int .i64 k.acc, .int .i64 k.ast]
  obtain ⟨W, hW⟩ : ∃ X, w.alloc (.cells #[.int .i64 k.acc, .int .i64 k.ast] 33) = X := ⟨_, rfl⟩
  obtain ⟨g, hg⟩ : ∃ g, w.heap.size = g := ⟨_, rfl⟩
  rw [hW] at hb0 hB
  have h1 := h.below hb0
  rw [hg] at hB
  have q0 : W.cell? ⟨g, 0, none⟩ = some (.int .i64 k.acc) := hB.cell 0
  have q1 : W.cell? ⟨g, 1, none⟩ = some (.int .i64 k.ast) := hB.cell 1
  have hsh := shardS_calls s k W h1
  have H := Lib.hid h
  have HB0 := Lib.hid hb0
  have HB := Lib.hid hB
  have HSH := Lib.hid hsh
  have HW := Lib.hid hW
  have HG := Lib.hid hg
  have HL := Lib.hid hlen
  clear h hb0 hB hsh hW hg h1 hlen
  go_enter Tryz.func56, Tryz.ntmps56
  go_wp2_with (fail)
  rw [HW.out, HG.out]
  go_wp2_with (fail)
  refine HSH.out.mono ?_
  rintro e w2 ⟨rfl, hb2⟩
  have hb12 := HB0.out.trans (hb2.mono HB0.out.size)
  have h2 := H.out.below hb12
  have hB2 := HB.out.below hb2 HB.out.lt
  have q0 : w2.cell? ⟨g, 0, none⟩ = some (.int .i64 k.acc) := hB2.cell 0
  have q1 : w2.cell? ⟨g, 1, none⟩ = some (.int .i64 k.ast) := hB2.cell 1
  rcases h2.cases k with ⟨a, c, b, P, Q, hs, hc, hf, hn1, hn2⟩ | ⟨P, Q, hc, hf, hn1, hn2⟩
  · -- the key is there
    have hlook := h2.look_some hs hn1 true
    simp only [if_true] at hlook
    have hmem : (k, c) ∈ s.chs := by rw [hc]; simp
    have hrt := fun c' : Ch => rows_turned (c := c) (c' := c') hn2
    have hrows : s.rows = (P ++ (k, c) :: Q).map rowOf := by unfold StV.rows; rw [hc]
    have hget : getR s.rows k = c.L := by rw [hrows]; exact (hrt c).2
    have hput := put_calls n v w2 (h2.chs _ hmem) (by have := HL.out; rw [hget] at this; exact this)
    have hfin : ∀ w3 sv', Chn w3 c.p sv' (putL c.L ⟨n, v⟩) → But w2 w3 (OfC c.p c.sv) → (∀ b, sv'.ownBlock = some b → c.sv.ownBlock = some b ∨ w2.heap.size ≤ b) → ∃ s', PutS w w3 s s' k n v := by
      intro w3 sv' hch hb3 hnw
      have hnn : ∀ i, (Ch.mk c.p sv' (putL c.L ⟨n, v⟩)).of i → c.of i ∨ w2.heap.size ≤ i := fun i hi => by
        rcases hi with hi | hi
        · exact .inl (.inl hi)
        · exact (hnw i hi).imp (fun h => .inr h) (fun h => h)
      obtain ⟨t1, t2⟩ := h2.turned (c' := ⟨c.p, sv', putL c.L ⟨n, v⟩⟩) hs hc (hf _) hb3 rfl hch hnn
      have hr : StV.rows { s with S := s.S.set (s.sh k) (a ++ (k, ⟨c.p, sv', putL c.L ⟨n, v⟩⟩) :: b) } = mput s.rows k (putL c.L ⟨n, v⟩) := by
        unfold StV.rows StV.chs
        rw [hf, (hrt ⟨c.p, sv', putL c.L ⟨n, v⟩⟩).1, ← hrows]
        rfl
      refine ⟨_, t1, rfl, rfl, rfl, rfl, fun hm => ?_, fun hm => ?_, ?_, fun i hi => (t2 i hi).imp (fun h => h) (fun h => Nat.le_trans hb12.size h)⟩
      · rw [hr, hget]
        rw [hget] at hm
        unfold putL
        rw [if_pos hm]
      · rw [hr]
        rw [hget] at hm
        unfold putL
        rw [if_neg (by rw [hm]; decide), hrows, ← (hrt c).1]
      · exact (But.of_below hb12 s.of).trans hb3 (fun i _ hi => .inr (.inr (.inr (.inr ⟨_, hmem, hi⟩))))
    have HPUT := Lib.hid hput
    have HFIN := Lib.hid hfin
    have HGET := Lib.hid hget
    have hpe : putE c.L n = 0 ∨ putE c.L n = 1 := by unfold putE; split; exact .inl rfl; exact .inr rfl
    have HPE := Lib.hid hpe
    clear hput hfin hget hs hc hf hn1 hn2 hmem hrt hrows h2 hB2 hb2 hb12 hpe
    go_wp2_with (fail)
    refine HPUT.out.mono ?_
    rintro e w3 ⟨sv', rfl, hch, hb3, hnw⟩
    have hres := HFIN.out w3 sv' hch hb3 hnw
    have HRES := Lib.hid hres
    clear hch hb3 hnw hres
    rcases HPE.out with hp | hp
    · have hfin2 : PutSQ w s k n v (.returned .nilIface) w3 := by
        obtain ⟨s', hs'⟩ := HRES.out
        refine ⟨s', ?_, hs'⟩
        rw [HGET.out, hp]; rfl
      have HF := Lib.hid hfin2
      rw [hp, show errV 0 = .nilIface from rfl]
      clear hp hfin2
      go_wp2
      go_ret
      exact HF.out
    · have hfin2 : PutSQ w s k n v (.returned (.iface 100 (.int .i64 1))) w3 := by
        obtain ⟨s', hs'⟩ := HRES.out
        refine ⟨s', ?_, hs'⟩
        rw [HGET.out, hp]; rfl
      have HF := Lib.hid hfin2
      rw [hp, show errV 1 = .iface 100 (.int .i64 1) from rfl]
      clear hp hfin2
      go_wp2
      go_ret
      exact HF.out
  · -- a new key
    have hlook := h2.look_none hn1 true
    simp only [if_true] at hlook
    have hrows : s.rows = (P ++ Q).map rowOf := by unfold StV.rows; rw [hc]
    have hrt := fun c' : Ch => rows_none (c' := c') hn2
    have hget : getR s.rows k = [] := by rw [hrows]; exact (hrt ⟨0, .slice none 0 0, []⟩).2
    have hnewc := newChain_calls w2
    have hfin : ∀ (w3 w4 : World) (sv' : Value), Below w2.heap.size w2 w3 → Chn w4 w2.heap.size sv' (putL [] ⟨n, v⟩) → But w3 w4 (OfC w2.heap.size (.slice none 0 0)) → (∀ b, sv'.ownBlock = some b → (Value.slice none 0 0).ownBlock = some b ∨ w3.heap.size ≤ b) → w2.heap.size < w3.heap.size →
        (∃ s', mayPut (getR s.rows k) n = false → PutS w w4 s s' k n v) ∧ w4.cell? ⟨g, 0, none⟩ = some (.int .i64 k.acc) ∧ w4.cell? ⟨g, 1, none⟩ = some (.int .i64 k.ast) ∧
        ∃ w5, (Instr.mapUpdate 88 (.map (some (s.map k))) (.agg #[.int .i64 k.acc, .int .i64 k.ast]) (.pointer (some ⟨w2.heap.size, 0, none⟩))).run Tryz.prog w4 = .ok () w5 ∧ (mayPut (getR s.rows k) n = true → ∃ s', PutS w w5 s s' k n v) := by
      intro w3 w4 sv' hb3 hch hb4 hnw hlt
      have hb24 : Below w2.heap.size w2 w4 := hb3.trans (hb4.to_below (fun i hi => by
        rcases hi with rfl | hi
        · exact Nat.le_refl _
        · cases hi) hb3.size)
      have h4 := h2.below hb24
      have hB4 := hB2.below hb24 hB2.lt
      refine ⟨⟨s, fun hm => ⟨h4, rfl, rfl, rfl, rfl, (fun h => by rw [hm] at h; cases h), fun _ => rfl, But.of_below (hb12.trans (hb24.mono hb12.size)) _, fun i hi => .inl hi⟩⟩, hB4.cell 0, hB4.cell 1, ?_⟩
      obtain ⟨w5, hrun, hm5, hg5, hs5⟩ := (h4.map_at k).put (P := Tryz.prog) (keyE_key w4) (fun _ _ => trivial) (x := k) trivial Tryz.underlying88 w2.heap.size
      refine ⟨w5, hrun, fun hm => ?_⟩
      have hb5 := grown_but hg5
      rw [mput_none (kp_none hn1)] at hm5
      have hch5 : Chn w5 w2.heap.size sv' (putL [] ⟨n, v⟩) := hch.but hb5 (fun i hi e => by
        subst e
        rcases hi with hi | hi
        · exact blk_map_ne hch.blk (h4.map_at k) hi.symm
        · exact own_map_ne hch.row (h4.map_at k) hi)
      have hnn : ∀ i, (Ch.mk w2.heap.size sv' (putL [] ⟨n, v⟩)).of i → w2.heap.size ≤ i := fun i hi => by
        rcases hi with rfl | hi
        · exact Nat.le_refl _
        · rcases hnw i hi with h | h
          · cases h
          · exact Nat.le_trans hb3.size h
      obtain ⟨t1, t2⟩ := h2.added (c' := ⟨w2.heap.size, sv', putL [] ⟨n, v⟩⟩) hc (hf _) hn2 ((But.of_below hb24 _).trans hb5 (fun _ _ h => h)) hm5 hch5 hnn
      refine ⟨_, t1, ?_, rfl, rfl, rfl, fun _ => ?_, (fun h => by rw [hm] at h; cases h), ?_, fun i hi => (t2 i hi).imp (fun h => h) (fun h => Nat.le_trans hb12.size h)⟩
      · rfl
      · have hp : putL ([] : List VerS) ⟨n, v⟩ = [] ++ [⟨n, v⟩] := by
          rw [hget] at hm
          unfold putL
          rw [if_pos hm]
        rw [hget, hrows, ← hp]
        unfold StV.rows StV.chs
        rw [hf]
        exact (hrt _).1
      · exact (But.of_below (hb12.trans (hb24.mono hb12.size)) s.of).trans hb5 (fun i _ hi => .inr (.inr (.inr (.inl (hi ▸ h2.map_mem k)))))
    have HNEW := Lib.hid hnewc
    have HFIN := Lib.hid hfin
    have HGET := Lib.hid hget
    have hpe : (putE ([] : List VerS) n = 0 ∧ mayPut ([] : List VerS) n = true) ∨ (putE ([] : List VerS) n = 1 ∧ mayPut ([] : List VerS) n = false) := by
      unfold putE
      cases hm : mayPut ([] : List VerS) n
      · exact .inr ⟨rfl, rfl⟩
      · exact .inl ⟨rfl, rfl⟩
    have HPE := Lib.hid hpe
    clear hnewc hfin hget hc hf hn1 hn2 hrt hrows h2 hB2 hb2 hb12 hpe
    go_wp2_with (fail)
    refine HNEW.out.mono ?_
    rintro e w3 ⟨rfl, hch, hb3⟩
    have hput := put_calls n v w3 hch (by simp)
    have hlt3 : w2.heap.size < w3.heap.size := hch.blk.lt
    have HPUT := Lib.hid hput
    have HB3 := Lib.hid hb3
    have HLT3 := Lib.hid hlt3
    clear hput hb3 hch hlook hlt3
    go_wp2_with (fail)
    refine HPUT.out.mono ?_
    rintro e w4 ⟨sv', rfl, hch, hb4, hnw⟩
    obtain ⟨hno, r0, r1, w5, hrun, hyes⟩ := HFIN.out w3 w4 sv' HB3.out hch hb4 hnw HLT3.out
    have HNO := Lib.hid hno
    have HYES := Lib.hid hyes
    clear hno hyes hch hb4 hnw
    rcases HPE.out with ⟨hp, hm⟩ | ⟨hp, hm⟩
    · have hfin2 : PutSQ w s k n v (.returned .nilIface) w5 := by
        obtain ⟨s', hs'⟩ := HYES.out (by rw [HGET.out]; exact hm)
        refine ⟨s', ?_, hs'⟩
        rw [HGET.out, hp]; rfl
      have HF := Lib.hid hfin2
      rw [hp, show errV 0 = .nilIface from rfl]
      clear hp hm hfin2
      go_wp2
      go_ret
      exact HF.out
    · have hfin2 : PutSQ w s k n v (.returned (.iface 100 (.int .i64 1))) w4 := by
        obtain ⟨s', hs'⟩ := HNO.out
        refine ⟨s', ?_, hs' (by rw [HGET.out]; exact hm)⟩
        rw [HGET.out, hp]; rfl
      have HF := Lib.hid hfin2
      rw [hp, show errV 1 = .iface 100 (.int .i64 1) from rfl]
      clear hp hm hfin2 hrun
      go_wp2
      go_ret
      exact HF.out
open Go.RowKit Go.MapKept Go.ChangeMaps Go.Maps

set_option maxRecDepth 100000 in
set_option maxHeartbeats 2000000 in
theorem lastS_calls (s : StV) (k : Key) (w : World) (h : StAt w s) :
    Calls Tryz.prog 58 #[.pointer (some ⟨s.p, 0, none⟩), .agg #[.int .i64 k.acc, .int .i64 k.ast]] w fun e w' => e = .returned (.tuple #[.int .i64 (lastV (getR s.rows k)), .int .i64 (lastM (getR s.rows k)), .bool (decide (0 < (getR s.rows k).length))]) ∧ Below w.heap.size w w' := by
  have hb0 : Below w.heap.size w (w.alloc (.cells #[.int .i64 k.acc, .int .i64 k.ast] 33)) := (Below.refl _ _).alloc (Nat.le_refl _) _
  have hB := Blk.new w 33 #[.int .i64 k.acc, .int .i64 k.ast]
  obtain ⟨W, hW⟩ : ∃ X, w.alloc (.cells #[.int .i64 k.acc, .int .i64 k.ast] 33) = X := ⟨_, rfl⟩
  obtain ⟨g, hg⟩ : ∃ g, w.heap.size = g := ⟨_, rfl⟩
  rw [hW] at hb0 hB
  have hd : Below W.heap.size W W.drew := (Below.refl _ _).drew
  have h1 := (h.below hb0).below hd
  rw [hg] at hB
  have q0 : W.cell? ⟨g, 0, none⟩ = some (.int .i64 k.acc) := hB.cell 0
  have q1 : W.cell? ⟨g, 1, none⟩ = some (.int .i64 k.ast) := hB.cell 1
  have hsh := shardS_calls s k W.drew h1
  obtain ⟨m, hm⟩ : ∃ m, s.map k = m := ⟨_, rfl⟩
  have hmap : ∀ w4, Below W.drew.heap.size W.drew w4 → StAt w4 s ∧ Below w.heap.size w w4 := fun w4 hb4 => ⟨h1.below hb4, hb0.trans ((hd.trans hb4).mono hb0.size)⟩
  have HB0 := Lib.hid hb0
  have HMAP := Lib.hid hmap
  have HW := Lib.hid hW
  have HG := Lib.hid hg
  rcases h.cases k with ⟨a, c, b, P, Q, hs, hc, hf, hn1, hn2⟩ | ⟨P, Q, hc, hf, hn1, hn2⟩
  · have hlook : ∀ w4, Below W.drew.heap.size W.drew w4 → (Instr.lookup 88 (.map (some m)) (.agg #[.int .i64 k.acc, .int .i64 k.ast]) true).run Tryz.prog w4 = .ok (.tuple #[.pointer (some ⟨c.p, 0, none⟩), .bool true]) w4 := fun w4 hb4 => by
      have := (hmap w4 hb4).1.look_some hs hn1 true
      rw [hm] at this
      simpa using this
    have hmem : (k, c) ∈ s.chs := by rw [hc]; simp
    have hget : getR s.rows k = c.L := by
      unfold StV.rows; rw [hc]; exact (rows_turned (c' := c) hn2).2
    rw [hget]
    have hch : ∀ w4, Below W.drew.heap.size W.drew w4 → Chn w4 c.p c.sv c.L := fun w4 hb4 => (hmap w4 hb4).1.chs _ hmem
    rw [hm] at hsh
    have HLOOK := Lib.hid hlook
    have HCH := Lib.hid hch
    have HSH := Lib.hid hsh
    clear hlook hch hsh hmem hget hs hc hf hn1 hn2 hmap hb0 hB hd h1 hW hg hm h
    go_enter Tryz.func58, Tryz.ntmps58
    go_wp2_with (fail)
    rw [HW.out, HG.out]
    go_region_held3 (fun w' => w'.cell? ⟨g, 0, none⟩ = some (.int .i64 k.acc) ∧ w'.cell? ⟨g, 1, none⟩ = some (.int .i64 k.ast))
      (first | go_keep | fail)
      ((go_at_call 83; refine HSH.out.mono ?_; rintro e w4 ⟨rfl, hb4⟩; have r0 : w4.cell? ⟨g, 0, none⟩ = some (.int .i64 k.acc) := cell_below (w := W.drew) hb4 q0; have r1 : w4.cell? ⟨g, 1, none⟩ = some (.int .i64 k.ast) := cell_below (w := W.drew) hb4 q1; have hlk := HLOOK.out w4 hb4; have HB4 := Lib.hid hb4; clear hb4))
    have hcc := last_calls w4 (HCH.out w4 HB4.out)
    have HCC := Lib.hid hcc
    clear hcc hlk
    go_wp2_with (fail)
    refine HCC.out.mono ?_
    rintro e w5 ⟨rfl, hb5⟩
    have HB5 := Lib.hid ((HMAP.out w4 HB4.out).2.trans (hb5.mono (HMAP.out w4 HB4.out).2.size))
    clear hb5
    go_wp2
    exact bodyPost_ret (v := .tuple #[.int .i64 (lastV c.L), .int .i64 (lastM c.L), .bool (decide (0 < c.L.length))]) (by simp [results, Tryz.results58, go_sem]) rfl ⟨rfl, HB5.out⟩
  · have hlook : ∀ w4, Below W.drew.heap.size W.drew w4 → (Instr.lookup 88 (.map (some m)) (.agg #[.int .i64 k.acc, .int .i64 k.ast]) true).run Tryz.prog w4 = .ok (.tuple #[.pointer none, .bool false]) w4 := fun w4 hb4 => by
      have := (hmap w4 hb4).1.look_none hn1 true
      rw [hm] at this
      simpa using this
    have hget : getR s.rows k = [] := by
      unfold StV.rows; rw [hc]; exact (rows_none (c' := ⟨0, .slice none 0 0, []⟩) hn2).2
    rw [hget]
    rw [hm] at hsh
    have HLOOK := Lib.hid hlook
    have HSH := Lib.hid hsh
    clear hlook hsh hget hc hf hn1 hn2 hmap hb0 hB hd h1 hW hg hm h
    go_enter Tryz.func58, Tryz.ntmps58
    go_wp2_with (fail)
    rw [HW.out, HG.out]
    go_region_held3 (fun w' => w'.cell? ⟨g, 0, none⟩ = some (.int .i64 k.acc) ∧ w'.cell? ⟨g, 1, none⟩ = some (.int .i64 k.ast))
      (first | go_keep | fail)
      ((go_at_call 83; refine HSH.out.mono ?_; rintro e w4 ⟨rfl, hb4⟩; have r0 : w4.cell? ⟨g, 0, none⟩ = some (.int .i64 k.acc) := cell_below (w := W.drew) hb4 q0; have r1 : w4.cell? ⟨g, 1, none⟩ = some (.int .i64 k.ast) := cell_below (w := W.drew) hb4 q1; have hlk := HLOOK.out w4 hb4; have HB4 := Lib.hid hb4; clear hb4))
    clear hlk
    have HB5 := Lib.hid (HMAP.out w4 HB4.out).2
    go_wp2
    exact bodyPost_ret (v := .tuple #[.int .i64 0, .int .i64 0, .bool false]) (by simp [results, Tryz.results58, go_sem]) rfl ⟨rfl, HB5.out⟩
set_option maxRecDepth 100000 in
set_option maxHeartbeats 2000000 in
theorem atS_calls (s : StV) (k : Key) (n : Int) (w : World) (h : StAt w s) :
    Calls Tryz.prog 57 #[.pointer (some ⟨s.p, 0, none⟩), .agg #[.int .i64 k.acc, .int .i64 k.ast], .int .i64 n] w fun e w' => e = .returned (.tuple #[.int .i64 (atV (getR s.rows k) n), .bool (decide (0 < leN (getR s.rows k) n))]) ∧ Below w.heap.size w w' := by
  have hb0 : Below w.heap.size w (w.alloc (.cells #[.int .i64 k.acc, .int .i64 k.ast] 33)) := (Below.refl _ _).alloc (Nat.le_refl _) _
  have hB := Blk.new w 33 #[.int .i64 k.acc, .int .i64 k.ast]
  obtain ⟨W, hW⟩ : ∃ X, w.alloc (.cells #[.int .i64 k.acc, .int .i64 k.ast] 33) = X := ⟨_, rfl⟩
  obtain ⟨g, hg⟩ : ∃ g, w.heap.size = g := ⟨_, rfl⟩
  rw [hW] at hb0 hB
  have hd : Below W.heap.size W W.drew := (Below.refl _ _).drew
  have h1 := (h.below hb0).below hd
  rw [hg] at hB
  have q0 : W.cell? ⟨g, 0, none⟩ = some (.int .i64 k.acc) := hB.cell 0
  have q1 : W.cell? ⟨g, 1, none⟩ = some (.int .i64 k.ast) := hB.cell 1
  have hsh := shardS_calls s k W.drew h1
  obtain ⟨m, hm⟩ : ∃ m, s.map k = m := ⟨_, rfl⟩
  have hmap : ∀ w4, Below W.drew.heap.size W.drew w4 → StAt w4 s ∧ Below w.heap.size w w4 := fun w4 hb4 => ⟨h1.below hb4, hb0.trans ((hd.trans hb4).mono hb0.size)⟩
  have HB0 := Lib.hid hb0
  have HMAP := Lib.hid hmap
  have HW := Lib.hid hW
  have HG := Lib.hid hg
  rcases h.cases k with ⟨a, c, b, P, Q, hs, hc, hf, hn1, hn2⟩ | ⟨P, Q, hc, hf, hn1, hn2⟩
  · have hlook : ∀ w4, Below W.drew.heap.size W.drew w4 → (Instr.lookup 88 (.map (some m)) (.agg #[.int .i64 k.acc, .int .i64 k.ast]) true).run Tryz.prog w4 = .ok (.tuple #[.pointer (some ⟨c.p, 0, none⟩), .bool true]) w4 := fun w4 hb4 => by
      have := (hmap w4 hb4).1.look_some hs hn1 true
      rw [hm] at this
      simpa using this
    have hmem : (k, c) ∈ s.chs := by rw [hc]; simp
    have hget : getR s.rows k = c.L := by
      unfold StV.rows; rw [hc]; exact (rows_turned (c' := c) hn2).2
    rw [hget]
    have hch : ∀ w4, Below W.drew.heap.size W.drew w4 → Chn w4 c.p c.sv c.L := fun w4 hb4 => (hmap w4 hb4).1.chs _ hmem
    rw [hm] at hsh
    have HLOOK := Lib.hid hlook
    have HCH := Lib.hid hch
    have HSH := Lib.hid hsh
    clear hlook hch hsh hmem hget hs hc hf hn1 hn2 hmap hb0 hB hd h1 hW hg hm h
    go_enter Tryz.func57, Tryz.ntmps57
    go_wp2_with (fail)
    rw [HW.out, HG.out]
    go_region_held3 (fun w' => w'.cell? ⟨g, 0, none⟩ = some (.int .i64 k.acc) ∧ w'.cell? ⟨g, 1, none⟩ = some (.int .i64 k.ast))
      (first | go_keep | fail)
      ((go_at_call 83; refine HSH.out.mono ?_; rintro e w4 ⟨rfl, hb4⟩; have r0 : w4.cell? ⟨g, 0, none⟩ = some (.int .i64 k.acc) := cell_below (w := W.drew) hb4 q0; have r1 : w4.cell? ⟨g, 1, none⟩ = some (.int .i64 k.ast) := cell_below (w := W.drew) hb4 q1; have hlk := HLOOK.out w4 hb4; have HB4 := Lib.hid hb4; clear hb4))
    have hcc := at_calls n w4 (HCH.out w4 HB4.out)
    have HCC := Lib.hid hcc
    clear hcc hlk
    go_wp2_with (fail)
    refine HCC.out.mono ?_
    rintro e w5 ⟨rfl, hb5⟩
    have HB5 := Lib.hid ((HMAP.out w4 HB4.out).2.trans (hb5.mono (HMAP.out w4 HB4.out).2.size))
    clear hb5
    go_wp2
    exact bodyPost_ret (v := .tuple #[.int .i64 (atV c.L n), .bool (decide (0 < leN c.L n))]) (by simp [results, Tryz.results57, go_sem]) rfl ⟨rfl, HB5.out⟩
  · have hlook : ∀ w4, Below W.drew.heap.size W.drew w4 → (Instr.lookup 88 (.map (some m)) (.agg #[.int .i64 k.acc, .int .i64 k.ast]) true).run Tryz.prog w4 = .ok (.tuple #[.pointer none, .bool false]) w4 := fun w4 hb4 => by
      have := (hmap w4 hb4).1.look_none hn1 true
      rw [hm] at this
      simpa using this
    have hget : getR s.rows k = [] := by
      unfold StV.rows; rw [hc]; exact (rows_none (c' := ⟨0, .slice none 0 0, []⟩) hn2).2
    rw [hget]
    rw [hm] at hsh
    have HLOOK := Lib.hid hlook
    have HSH := Lib.hid hsh
    clear hlook hsh hget hc hf hn1 hn2 hmap hb0 hB hd h1 hW hg hm h
    go_enter Tryz.func57, Tryz.ntmps57
    go_wp2_with (fail)
    rw [HW.out, HG.out]
    go_region_held3 (fun w' => w'.cell? ⟨g, 0, none⟩ = some (.int .i64 k.acc) ∧ w'.cell? ⟨g, 1, none⟩ = some (.int .i64 k.ast))
      (first | go_keep | fail)
      ((go_at_call 83; refine HSH.out.mono ?_; rintro e w4 ⟨rfl, hb4⟩; have r0 : w4.cell? ⟨g, 0, none⟩ = some (.int .i64 k.acc) := cell_below (w := W.drew) hb4 q0; have r1 : w4.cell? ⟨g, 1, none⟩ = some (.int .i64 k.ast) := cell_below (w := W.drew) hb4 q1; have hlk := HLOOK.out w4 hb4; have HB4 := Lib.hid hb4; clear hb4))
    clear hlk
    have HB5 := Lib.hid (HMAP.out w4 HB4.out).2
    go_wp2
    exact bodyPost_ret (v := .tuple #[.int .i64 0, .bool false]) (by simp [results, Tryz.results57, go_sem]) rfl ⟨rfl, HB5.out⟩
end NI
end Go.Proofs.YtflkddllofeiaaaGreatDoor
