/- guard.Decode, by contracts: at each reader. -/
import Derived.Test.YtmdkcggmnejkoaaDoorDecode5
namespace Go.Proofs.YtmdkcggmnejkoaaDoor
set_option linter.unusedSimpArgs false
set_option linter.unusedVariables false
open Go.RowKit

set_option maxRecDepth 100000 in
set_option maxHeartbeats 4000000 in
theorem decode_marked (A : Option Addr) (cap : Nat) (c : Int) (r : List Int) (w : World) (hr : Reads w w.heap.size 1 A (r.length + 1) (intsC (c :: r))) (hcap : r.length + 1 ≤ cap) (hlen : r.length ≤ 17592186044416)
    {i : Nat} (hf : Instr.findNow (.int .i64) (.int .i64 c) readersL 0 = some (some (i, fn_ 74))) :
    Calls Tryd.prog 26 #[.slice A (r.length + 1) cap] w (DecodeTo w (fin (rdMarked c r))) := by
  obtain ⟨g, hgw⟩ : ∃ g, w.heap.size = g := ⟨_, rfl⟩
  obtain ⟨W0, hW0⟩ : ∃ W0, (w.alloc (Obj.cells #[.int .i64 0, .int .i64 0, .int .i64 0, .int .i64 0, .int .i64 0, .int .i64 0, nilS, nilS] 33)).alloc (Obj.cells #[.slice A (r.length + 1) cap] 89) = W0 := ⟨_, rfl⟩
  have b0 : Below w.heap.size w W0 := by rw [← hW0]; exact ((Below.refl _ _).alloc (Nat.le_refl _) _).alloc (by simp) _
  have z0 : W0.heap.size = g + 2 := by rw [← hW0, ← hgw]; simp
  have k0 : Blk W0 g 33 (OpM.zero.cs nilS nilS) := by rw [← hW0, ← hgw]; exact (Blk.new _ _ _).alloc _
  have r0 : Blk W0 (g + 1) 89 #[.slice A (r.length + 1) cap] := by
    rw [← hW0, ← hgw]
    have h := Blk.new (w.alloc (Obj.cells #[.int .i64 0, .int .i64 0, .int .i64 0, .int .i64 0, .int .i64 0, .int .i64 0, nilS, nilS] 33)) 89 #[.slice A (r.length + 1) cap]
    simpa using h
  have hra : RowAt W0 (g + 1) g (c :: r) := ⟨A, cap, r0, hcap, by rw [← hgw]; exact hr.below b0⟩
  have HF := Lib.hid hf
  clear hf hr
  go_enter Tryd.func26, Tryd.ntmps26
  go_wp2_with (fail)
  refine (next_cons (g + 1) g c r W0 hra (by omega)).mono ?_
  rintro e w1 ⟨rfl, hr1, ht1, hs1⟩
  have hm : w1.heap.size = g + 2 := by omega
  have b1 : Below w.heap.size w w1 := ⟨ht1.os.trans b0.os, ht1.tape.trans b0.tape, ht1.output.trans b0.output, Nat.le_trans b0.size ht1.size, fun i hi => (ht1.block i (Nat.lt_of_lt_of_le hi b0.size) (by omega) (by omega)).trans (b0.block i hi)⟩
  have k1 : Blk w1 g 33 (OpM.zero.cs nilS nilS) := ht1.blk k0 (by omega) (by omega)
  obtain ⟨W2, hW2⟩ : ∃ W2, w1.alloc (.map readersL.toArray 8) = W2 := ⟨_, rfl⟩
  have hb2 : W2.heap[g + 2]? = some (.map readersL.toArray 8) := by rw [← hW2, ← hm]; exact heap_alloc_new _ _
  have b12 : Below w1.heap.size w1 W2 := by rw [← hW2]; exact (Below.refl _ _).alloc (Nat.le_refl _) _
  have hm2 : W2.heap.size = g + 3 := by rw [← hW2]; simp [hm]
  have b2 : Below w.heap.size w W2 := b1.trans (b12.mono b1.size)
  have k2 : Blk W2 g 33 (OpM.zero.cs nilS nilS) := k1.below b12 k1.lt
  have hr2 : RowAt W2 (g + 1) g r := hr1.below b12 (by omega)
  have hl := run_look (P := Tryd.prog) (t := 93) (k := 2) (e := 92) (by kernel_rfl) (by kernel_rfl) hb2 c HF.out
  simp only [fn_] at hl
  have hq := run_eql_func (P := Tryd.prog) W2 (t := 92) (by kernel_rfl) (.func 74) #[] #[]
  clear hW0 b0 k0 r0 hra z0 hs1 ht1 b1 k1 b12 hr1 hb2
  go_wp2_with (go_at_call 59; refine (readers_calls _).mono ?_; rintro e w2 ⟨rfl, rfl⟩)
  obtain ⟨W3, hW3⟩ : ∃ W3, W2.alloc (Obj.cells #[.int .i64 c, .int .i64 0, .int .i64 0, .int .i64 0, .int .i64 0, .int .i64 0, nilS, nilS] 33) = W3 := ⟨_, rfl⟩
  have b3 : Below w.heap.size w W3 := by rw [← hW3]; exact b2.alloc b2.size _
  have k3 : Blk W3 g 33 (OpM.zero.cs nilS nilS) := by rw [← hW3]; exact k2.alloc _
  have o3 : Blk W3 (g + 3) 33 (opCs c 0 0 0 0 0 nilS nilS) := by rw [← hW3, ← hm2]; exact Blk.new _ _ _
  have hr3 : RowAt W3 (g + 1) g r := by rw [← hW3]; exact hr2.below ((Below.refl _ _).alloc (Nat.le_refl _) _) (by omega)
  have hm3 : W3.heap.size = g + 4 := by rw [← hW3]; simp [hm2]
  rw [hW3]
  clear b2 k2 hr2
  refine (rd_marked (g + 1) (g + 3) g c r W3 hr3 o3 (by omega) (by omega) (by omega)).mono ?_
  intro e w4 hp
  clear hr3 o3 hl hq hW2 hW3 hm2 hm
  cases hres : rdMarked c r with
  | none =>
    rw [hres] at hp
    obtain ⟨rfl, ht⟩ := hp
    have b4 : Below w.heap.size w w4 := ⟨ht.os.trans b3.os, ht.tape.trans b3.tape, ht.output.trans b3.output, Nat.le_trans b3.size ht.size, fun i hi => (ht.block i (Nat.lt_of_lt_of_le hi b3.size) (by omega) (by omega)).trans (b3.block i hi)⟩
    have k4 : Blk w4 g 33 (OpM.zero.cs nilS nilS) := ht.blk k3 (by omega) (by omega)
    have k40 : w4.cell? ⟨g, 0, none⟩ = some (.int .i64 0) := k4.cell 0
    have k41 : w4.cell? ⟨g, 1, none⟩ = some (.int .i64 0) := k4.cell 1
    have k42 : w4.cell? ⟨g, 2, none⟩ = some (.int .i64 0) := k4.cell 2
    have k43 : w4.cell? ⟨g, 3, none⟩ = some (.int .i64 0) := k4.cell 3
    have k44 : w4.cell? ⟨g, 4, none⟩ = some (.int .i64 0) := k4.cell 4
    have k45 : w4.cell? ⟨g, 5, none⟩ = some (.int .i64 0) := k4.cell 5
    have k46 : w4.cell? ⟨g, 6, none⟩ = some (.slice none 0 0) := k4.cell 6
    have k47 : w4.cell? ⟨g, 7, none⟩ = some (.slice none 0 0) := k4.cell 7
    have f40 := k4.frozen 0
    have f41 := k4.frozen 1
    have f42 := k4.frozen 2
    have f43 := k4.frozen 3
    have f44 := k4.frozen 4
    have f45 := k4.frozen 5
    have f46 := k4.frozen 6
    have f47 := k4.frozen 7
    have K4 := Lib.hid k4
    clear k4 k3
    go_wp2
    obtain ⟨W5, hW5⟩ : ∃ W5, put8 w4 g (.int .i64 0) (.int .i64 0) (.int .i64 0) (.int .i64 0) (.int .i64 0) (.int .i64 0) (.slice none 0 0) (.slice none 0 0) = W5 := ⟨_, rfl⟩
    have K5 : Blk W5 g 33 (OpM.zero.cs nilS nilS) := by rw [← hW5]; exact put8_blk _ _ _ _ _ _ _ _ K4.out
    have B5 : Below w.heap.size w W5 := by rw [← hW5]; exact put8_below _ _ _ _ _ _ _ _ b4 (by omega)
    unfold put8 at hW5
    rw [hW5]
    clear hW5 k40 k41 k42 k43 k44 k45 k46 k47 f40 f41 f42 f43 f44 f45 f46 f47
    have c50 : W5.cell? ⟨g, 0, none⟩ = some (.int .i64 0) := K5.cell 0
    have c51 : W5.cell? ⟨g, 1, none⟩ = some (.int .i64 0) := K5.cell 1
    have c52 : W5.cell? ⟨g, 2, none⟩ = some (.int .i64 0) := K5.cell 2
    have c53 : W5.cell? ⟨g, 3, none⟩ = some (.int .i64 0) := K5.cell 3
    have c54 : W5.cell? ⟨g, 4, none⟩ = some (.int .i64 0) := K5.cell 4
    have c55 : W5.cell? ⟨g, 5, none⟩ = some (.int .i64 0) := K5.cell 5
    have c56 : W5.cell? ⟨g, 6, none⟩ = some (.slice none 0 0) := K5.cell 6
    have c57 : W5.cell? ⟨g, 7, none⟩ = some (.slice none 0 0) := K5.cell 7
    refine bodyPost_ret (v := .tuple #[.agg (OpM.zero.cs nilS nilS), errV 2]) (by simp [results, Tryd.results26, go_sem, c50, c51, c52, c53, c54, c55, c56, c57]; exact ⟨rfl, (errV_pos (by decide)).symm⟩) rfl ?_
    rw [hres]
    exact DecodeTo.none_ B5
  | some p =>
    obtain ⟨o, rem⟩ := p
    rw [hres] at hp
    obtain ⟨rfl, hr4, ht, L, P, hL, hP, ho⟩ := hp
    obtain ⟨LA, Ln, Lc, rfl⟩ := own_slice hL
    obtain ⟨PA, Pn, Pc, rfl⟩ := own_slice hP
    have b4 : Below w.heap.size w w4 := ⟨ht.os.trans b3.os, ht.tape.trans b3.tape, ht.output.trans b3.output, Nat.le_trans b3.size ht.size, fun i hi => (ht.block i (Nat.lt_of_lt_of_le hi b3.size) (by omega) (by omega)).trans (b3.block i hi)⟩
    have k4 : Blk w4 g 33 (OpM.zero.cs nilS nilS) := ht.blk k3 (by omega) (by omega)
    have k40 : w4.cell? ⟨g, 0, none⟩ = some (.int .i64 0) := k4.cell 0
    have k41 : w4.cell? ⟨g, 1, none⟩ = some (.int .i64 0) := k4.cell 1
    have k42 : w4.cell? ⟨g, 2, none⟩ = some (.int .i64 0) := k4.cell 2
    have k43 : w4.cell? ⟨g, 3, none⟩ = some (.int .i64 0) := k4.cell 3
    have k44 : w4.cell? ⟨g, 4, none⟩ = some (.int .i64 0) := k4.cell 4
    have k45 : w4.cell? ⟨g, 5, none⟩ = some (.int .i64 0) := k4.cell 5
    have k46 : w4.cell? ⟨g, 6, none⟩ = some (.slice none 0 0) := k4.cell 6
    have k47 : w4.cell? ⟨g, 7, none⟩ = some (.slice none 0 0) := k4.cell 7
    have f40 := k4.frozen 0
    have f41 := k4.frozen 1
    have f42 := k4.frozen 2
    have f43 := k4.frozen 3
    have f44 := k4.frozen 4
    have f45 := k4.frozen 5
    have f46 := k4.frozen 6
    have f47 := k4.frozen 7
    have K4 := Lib.hid k4
    clear k4 k3
    have nL : (Value.slice LA Ln Lc).ownBlock ≠ some g := fun e => by have := own_base hL e; omega
    have nP : (Value.slice PA Pn Pc).ownBlock ≠ some g := fun e => by have := own_base hP e; omega
    have hwg : w.heap.size ≤ W3.heap.size := b3.size
    have o40 : w4.cell? ⟨g + 3, 0, none⟩ = some (.int .i64 o.c) := ho.cell 0
    have o41 : w4.cell? ⟨g + 3, 1, none⟩ = some (.int .i64 o.a) := ho.cell 1
    have o42 : w4.cell? ⟨g + 3, 2, none⟩ = some (.int .i64 o.b) := ho.cell 2
    have o43 : w4.cell? ⟨g + 3, 3, none⟩ = some (.int .i64 o.q) := ho.cell 3
    have o44 : w4.cell? ⟨g + 3, 4, none⟩ = some (.int .i64 o.n) := ho.cell 4
    have o45 : w4.cell? ⟨g + 3, 5, none⟩ = some (.int .i64 o.i) := ho.cell 5
    have o46 : w4.cell? ⟨g + 3, 6, none⟩ = some (.slice LA Ln Lc) := ho.cell 6
    have o47 : w4.cell? ⟨g + 3, 7, none⟩ = some (.slice PA Pn Pc) := ho.cell 7
    obtain ⟨A4, c4, hb4, _, _⟩ := hr4
    cases rem with
    | nil =>
      have r4 : w4.cell? ⟨g + 1, 0, none⟩ = some (.slice A4 0 c4) := hb4.cell 0
      clear hb4 ho
      go_wp2
      obtain ⟨W5, hW5⟩ : ∃ W5, put8 w4 g (.int .i64 o.c) (.int .i64 o.a) (.int .i64 o.b) (.int .i64 o.q) (.int .i64 o.n) (.int .i64 o.i) (.slice LA Ln Lc) (.slice PA Pn Pc) = W5 := ⟨_, rfl⟩
      have K5 : Blk W5 g 33 (o.cs (.slice LA Ln Lc) (.slice PA Pn Pc)) := by rw [← hW5]; exact put8_blk _ _ _ _ _ _ _ _ K4.out
      have B5 : Below w.heap.size w W5 := by rw [← hW5]; exact put8_below _ _ _ _ _ _ _ _ b4 (by omega)
      have L5 := put8_own (.int .i64 o.c) (.int .i64 o.a) (.int .i64 o.b) (.int .i64 o.q) (.int .i64 o.n) (.int .i64 o.i) (.slice LA Ln Lc) (.slice PA Pn Pc) hL nL
      have P5 := put8_own (.int .i64 o.c) (.int .i64 o.a) (.int .i64 o.b) (.int .i64 o.q) (.int .i64 o.n) (.int .i64 o.i) (.slice LA Ln Lc) (.slice PA Pn Pc) hP nP
      rw [hW5] at L5 P5
      unfold put8 at hW5
      rw [hW5]
      clear hW5 k40 k41 k42 k43 k44 k45 k46 k47 f40 f41 f42 f43 f44 f45 f46 f47
      have c50 : W5.cell? ⟨g, 0, none⟩ = some (.int .i64 o.c) := K5.cell 0
      have c51 : W5.cell? ⟨g, 1, none⟩ = some (.int .i64 o.a) := K5.cell 1
      have c52 : W5.cell? ⟨g, 2, none⟩ = some (.int .i64 o.b) := K5.cell 2
      have c53 : W5.cell? ⟨g, 3, none⟩ = some (.int .i64 o.q) := K5.cell 3
      have c54 : W5.cell? ⟨g, 4, none⟩ = some (.int .i64 o.n) := K5.cell 4
      have c55 : W5.cell? ⟨g, 5, none⟩ = some (.int .i64 o.i) := K5.cell 5
      have c56 : W5.cell? ⟨g, 6, none⟩ = some (.slice LA Ln Lc) := K5.cell 6
      have c57 : W5.cell? ⟨g, 7, none⟩ = some (.slice PA Pn Pc) := K5.cell 7
      refine bodyPost_ret (v := .tuple #[.agg (o.cs (.slice LA Ln Lc) (.slice PA Pn Pc)), errV 0]) (by simp [results, Tryd.results26, go_sem, c50, c51, c52, c53, c54, c55, c56, c57]; exact ⟨rfl, rfl⟩) rfl ?_
      rw [hres]
      exact ⟨_, _, rfl, own_weaken L5 hwg, own_weaken P5 hwg, B5⟩
    | cons y ys =>
      have r4 : w4.cell? ⟨g + 1, 0, none⟩ = some (.slice A4 (ys.length + 1) c4) := hb4.cell 0
      clear hb4 ho
      go_wp2
      obtain ⟨W5, hW5⟩ : ∃ W5, put8 w4 g (.int .i64 0) (.int .i64 0) (.int .i64 0) (.int .i64 0) (.int .i64 0) (.int .i64 0) (.slice none 0 0) (.slice none 0 0) = W5 := ⟨_, rfl⟩
      have K5 : Blk W5 g 33 (OpM.zero.cs nilS nilS) := by rw [← hW5]; exact put8_blk _ _ _ _ _ _ _ _ K4.out
      have B5 : Below w.heap.size w W5 := by rw [← hW5]; exact put8_below _ _ _ _ _ _ _ _ b4 (by omega)
      unfold put8 at hW5
      rw [hW5]
      clear hW5 k40 k41 k42 k43 k44 k45 k46 k47 f40 f41 f42 f43 f44 f45 f46 f47
      have c50 : W5.cell? ⟨g, 0, none⟩ = some (.int .i64 0) := K5.cell 0
      have c51 : W5.cell? ⟨g, 1, none⟩ = some (.int .i64 0) := K5.cell 1
      have c52 : W5.cell? ⟨g, 2, none⟩ = some (.int .i64 0) := K5.cell 2
      have c53 : W5.cell? ⟨g, 3, none⟩ = some (.int .i64 0) := K5.cell 3
      have c54 : W5.cell? ⟨g, 4, none⟩ = some (.int .i64 0) := K5.cell 4
      have c55 : W5.cell? ⟨g, 5, none⟩ = some (.int .i64 0) := K5.cell 5
      have c56 : W5.cell? ⟨g, 6, none⟩ = some (.slice none 0 0) := K5.cell 6
      have c57 : W5.cell? ⟨g, 7, none⟩ = some (.slice none 0 0) := K5.cell 7
      refine bodyPost_ret (v := .tuple #[.agg (OpM.zero.cs nilS nilS), errV 3]) (by simp [results, Tryd.results26, go_sem, c50, c51, c52, c53, c54, c55, c56, c57]; exact ⟨rfl, (errV_pos (by decide)).symm⟩) rfl ?_
      rw [hres]
      exact DecodeTo.none_ B5

set_option maxRecDepth 100000 in
set_option maxHeartbeats 4000000 in
theorem decode_id (A : Option Addr) (cap : Nat) (c : Int) (r : List Int) (w : World) (hr : Reads w w.heap.size 1 A (r.length + 1) (intsC (c :: r))) (hcap : r.length + 1 ≤ cap) (hlen : r.length ≤ 17592186044416)
    {i : Nat} (hf : Instr.findNow (.int .i64) (.int .i64 c) readersL 0 = some (some (i, fn_ 76))) :
    Calls Tryd.prog 26 #[.slice A (r.length + 1) cap] w (DecodeTo w (fin (rdId c r))) := by
  obtain ⟨g, hgw⟩ : ∃ g, w.heap.size = g := ⟨_, rfl⟩
  obtain ⟨W0, hW0⟩ : ∃ W0, (w.alloc (Obj.cells #[.int .i64 0, .int .i64 0, .int .i64 0, .int .i64 0, .int .i64 0, .int .i64 0, nilS, nilS] 33)).alloc (Obj.cells #[.slice A (r.length + 1) cap] 89) = W0 := ⟨_, rfl⟩
  have b0 : Below w.heap.size w W0 := by rw [← hW0]; exact ((Below.refl _ _).alloc (Nat.le_refl _) _).alloc (by simp) _
  have z0 : W0.heap.size = g + 2 := by rw [← hW0, ← hgw]; simp
  have k0 : Blk W0 g 33 (OpM.zero.cs nilS nilS) := by rw [← hW0, ← hgw]; exact (Blk.new _ _ _).alloc _
  have r0 : Blk W0 (g + 1) 89 #[.slice A (r.length + 1) cap] := by
    rw [← hW0, ← hgw]
    have h := Blk.new (w.alloc (Obj.cells #[.int .i64 0, .int .i64 0, .int .i64 0, .int .i64 0, .int .i64 0, .int .i64 0, nilS, nilS] 33)) 89 #[.slice A (r.length + 1) cap]
    simpa using h
  have hra : RowAt W0 (g + 1) g (c :: r) := ⟨A, cap, r0, hcap, by rw [← hgw]; exact hr.below b0⟩
  have HF := Lib.hid hf
  clear hf hr
  go_enter Tryd.func26, Tryd.ntmps26
  go_wp2_with (fail)
  refine (next_cons (g + 1) g c r W0 hra (by omega)).mono ?_
  rintro e w1 ⟨rfl, hr1, ht1, hs1⟩
  have hm : w1.heap.size = g + 2 := by omega
  have b1 : Below w.heap.size w w1 := ⟨ht1.os.trans b0.os, ht1.tape.trans b0.tape, ht1.output.trans b0.output, Nat.le_trans b0.size ht1.size, fun i hi => (ht1.block i (Nat.lt_of_lt_of_le hi b0.size) (by omega) (by omega)).trans (b0.block i hi)⟩
  have k1 : Blk w1 g 33 (OpM.zero.cs nilS nilS) := ht1.blk k0 (by omega) (by omega)
  obtain ⟨W2, hW2⟩ : ∃ W2, w1.alloc (.map readersL.toArray 8) = W2 := ⟨_, rfl⟩
  have hb2 : W2.heap[g + 2]? = some (.map readersL.toArray 8) := by rw [← hW2, ← hm]; exact heap_alloc_new _ _
  have b12 : Below w1.heap.size w1 W2 := by rw [← hW2]; exact (Below.refl _ _).alloc (Nat.le_refl _) _
  have hm2 : W2.heap.size = g + 3 := by rw [← hW2]; simp [hm]
  have b2 : Below w.heap.size w W2 := b1.trans (b12.mono b1.size)
  have k2 : Blk W2 g 33 (OpM.zero.cs nilS nilS) := k1.below b12 k1.lt
  have hr2 : RowAt W2 (g + 1) g r := hr1.below b12 (by omega)
  have hl := run_look (P := Tryd.prog) (t := 93) (k := 2) (e := 92) (by kernel_rfl) (by kernel_rfl) hb2 c HF.out
  simp only [fn_] at hl
  have hq := run_eql_func (P := Tryd.prog) W2 (t := 92) (by kernel_rfl) (.func 76) #[] #[]
  clear hW0 b0 k0 r0 hra z0 hs1 ht1 b1 k1 b12 hr1 hb2
  go_wp2_with (go_at_call 59; refine (readers_calls _).mono ?_; rintro e w2 ⟨rfl, rfl⟩)
  obtain ⟨W3, hW3⟩ : ∃ W3, W2.alloc (Obj.cells #[.int .i64 c, .int .i64 0, .int .i64 0, .int .i64 0, .int .i64 0, .int .i64 0, nilS, nilS] 33) = W3 := ⟨_, rfl⟩
  have b3 : Below w.heap.size w W3 := by rw [← hW3]; exact b2.alloc b2.size _
  have k3 : Blk W3 g 33 (OpM.zero.cs nilS nilS) := by rw [← hW3]; exact k2.alloc _
  have o3 : Blk W3 (g + 3) 33 (opCs c 0 0 0 0 0 nilS nilS) := by rw [← hW3, ← hm2]; exact Blk.new _ _ _
  have hr3 : RowAt W3 (g + 1) g r := by rw [← hW3]; exact hr2.below ((Below.refl _ _).alloc (Nat.le_refl _) _) (by omega)
  have hm3 : W3.heap.size = g + 4 := by rw [← hW3]; simp [hm2]
  rw [hW3]
  clear b2 k2 hr2
  refine (rd_id (g + 1) (g + 3) g c r W3 hr3 o3 (by omega) (by omega) (by omega)).mono ?_
  intro e w4 hp
  clear hr3 o3 hl hq hW2 hW3 hm2 hm
  cases hres : rdId c r with
  | none =>
    rw [hres] at hp
    obtain ⟨rfl, ht⟩ := hp
    have b4 : Below w.heap.size w w4 := ⟨ht.os.trans b3.os, ht.tape.trans b3.tape, ht.output.trans b3.output, Nat.le_trans b3.size ht.size, fun i hi => (ht.block i (Nat.lt_of_lt_of_le hi b3.size) (by omega) (by omega)).trans (b3.block i hi)⟩
    have k4 : Blk w4 g 33 (OpM.zero.cs nilS nilS) := ht.blk k3 (by omega) (by omega)
    have k40 : w4.cell? ⟨g, 0, none⟩ = some (.int .i64 0) := k4.cell 0
    have k41 : w4.cell? ⟨g, 1, none⟩ = some (.int .i64 0) := k4.cell 1
    have k42 : w4.cell? ⟨g, 2, none⟩ = some (.int .i64 0) := k4.cell 2
    have k43 : w4.cell? ⟨g, 3, none⟩ = some (.int .i64 0) := k4.cell 3
    have k44 : w4.cell? ⟨g, 4, none⟩ = some (.int .i64 0) := k4.cell 4
    have k45 : w4.cell? ⟨g, 5, none⟩ = some (.int .i64 0) := k4.cell 5
    have k46 : w4.cell? ⟨g, 6, none⟩ = some (.slice none 0 0) := k4.cell 6
    have k47 : w4.cell? ⟨g, 7, none⟩ = some (.slice none 0 0) := k4.cell 7
    have f40 := k4.frozen 0
    have f41 := k4.frozen 1
    have f42 := k4.frozen 2
    have f43 := k4.frozen 3
    have f44 := k4.frozen 4
    have f45 := k4.frozen 5
    have f46 := k4.frozen 6
    have f47 := k4.frozen 7
    have K4 := Lib.hid k4
    clear k4 k3
    go_wp2
    obtain ⟨W5, hW5⟩ : ∃ W5, put8 w4 g (.int .i64 0) (.int .i64 0) (.int .i64 0) (.int .i64 0) (.int .i64 0) (.int .i64 0) (.slice none 0 0) (.slice none 0 0) = W5 := ⟨_, rfl⟩
    have K5 : Blk W5 g 33 (OpM.zero.cs nilS nilS) := by rw [← hW5]; exact put8_blk _ _ _ _ _ _ _ _ K4.out
    have B5 : Below w.heap.size w W5 := by rw [← hW5]; exact put8_below _ _ _ _ _ _ _ _ b4 (by omega)
    unfold put8 at hW5
    rw [hW5]
    clear hW5 k40 k41 k42 k43 k44 k45 k46 k47 f40 f41 f42 f43 f44 f45 f46 f47
    have c50 : W5.cell? ⟨g, 0, none⟩ = some (.int .i64 0) := K5.cell 0
    have c51 : W5.cell? ⟨g, 1, none⟩ = some (.int .i64 0) := K5.cell 1
    have c52 : W5.cell? ⟨g, 2, none⟩ = some (.int .i64 0) := K5.cell 2
    have c53 : W5.cell? ⟨g, 3, none⟩ = some (.int .i64 0) := K5.cell 3
    have c54 : W5.cell? ⟨g, 4, none⟩ = some (.int .i64 0) := K5.cell 4
    have c55 : W5.cell? ⟨g, 5, none⟩ = some (.int .i64 0) := K5.cell 5
    have c56 : W5.cell? ⟨g, 6, none⟩ = some (.slice none 0 0) := K5.cell 6
    have c57 : W5.cell? ⟨g, 7, none⟩ = some (.slice none 0 0) := K5.cell 7
    refine bodyPost_ret (v := .tuple #[.agg (OpM.zero.cs nilS nilS), errV 2]) (by simp [results, Tryd.results26, go_sem, c50, c51, c52, c53, c54, c55, c56, c57]; exact ⟨rfl, (errV_pos (by decide)).symm⟩) rfl ?_
    rw [hres]
    exact DecodeTo.none_ B5
  | some p =>
    obtain ⟨o, rem⟩ := p
    rw [hres] at hp
    obtain ⟨rfl, hr4, ht, L, P, hL, hP, ho⟩ := hp
    obtain ⟨LA, Ln, Lc, rfl⟩ := own_slice hL
    obtain ⟨PA, Pn, Pc, rfl⟩ := own_slice hP
    have b4 : Below w.heap.size w w4 := ⟨ht.os.trans b3.os, ht.tape.trans b3.tape, ht.output.trans b3.output, Nat.le_trans b3.size ht.size, fun i hi => (ht.block i (Nat.lt_of_lt_of_le hi b3.size) (by omega) (by omega)).trans (b3.block i hi)⟩
    have k4 : Blk w4 g 33 (OpM.zero.cs nilS nilS) := ht.blk k3 (by omega) (by omega)
    have k40 : w4.cell? ⟨g, 0, none⟩ = some (.int .i64 0) := k4.cell 0
    have k41 : w4.cell? ⟨g, 1, none⟩ = some (.int .i64 0) := k4.cell 1
    have k42 : w4.cell? ⟨g, 2, none⟩ = some (.int .i64 0) := k4.cell 2
    have k43 : w4.cell? ⟨g, 3, none⟩ = some (.int .i64 0) := k4.cell 3
    have k44 : w4.cell? ⟨g, 4, none⟩ = some (.int .i64 0) := k4.cell 4
    have k45 : w4.cell? ⟨g, 5, none⟩ = some (.int .i64 0) := k4.cell 5
    have k46 : w4.cell? ⟨g, 6, none⟩ = some (.slice none 0 0) := k4.cell 6
    have k47 : w4.cell? ⟨g, 7, none⟩ = some (.slice none 0 0) := k4.cell 7
    have f40 := k4.frozen 0
    have f41 := k4.frozen 1
    have f42 := k4.frozen 2
    have f43 := k4.frozen 3
    have f44 := k4.frozen 4
    have f45 := k4.frozen 5
    have f46 := k4.frozen 6
    have f47 := k4.frozen 7
    have K4 := Lib.hid k4
    clear k4 k3
    have nL : (Value.slice LA Ln Lc).ownBlock ≠ some g := fun e => by have := own_base hL e; omega
    have nP : (Value.slice PA Pn Pc).ownBlock ≠ some g := fun e => by have := own_base hP e; omega
    have hwg : w.heap.size ≤ W3.heap.size := b3.size
    have o40 : w4.cell? ⟨g + 3, 0, none⟩ = some (.int .i64 o.c) := ho.cell 0
    have o41 : w4.cell? ⟨g + 3, 1, none⟩ = some (.int .i64 o.a) := ho.cell 1
    have o42 : w4.cell? ⟨g + 3, 2, none⟩ = some (.int .i64 o.b) := ho.cell 2
    have o43 : w4.cell? ⟨g + 3, 3, none⟩ = some (.int .i64 o.q) := ho.cell 3
    have o44 : w4.cell? ⟨g + 3, 4, none⟩ = some (.int .i64 o.n) := ho.cell 4
    have o45 : w4.cell? ⟨g + 3, 5, none⟩ = some (.int .i64 o.i) := ho.cell 5
    have o46 : w4.cell? ⟨g + 3, 6, none⟩ = some (.slice LA Ln Lc) := ho.cell 6
    have o47 : w4.cell? ⟨g + 3, 7, none⟩ = some (.slice PA Pn Pc) := ho.cell 7
    obtain ⟨A4, c4, hb4, _, _⟩ := hr4
    cases rem with
    | nil =>
      have r4 : w4.cell? ⟨g + 1, 0, none⟩ = some (.slice A4 0 c4) := hb4.cell 0
      clear hb4 ho
      go_wp2
      obtain ⟨W5, hW5⟩ : ∃ W5, put8 w4 g (.int .i64 o.c) (.int .i64 o.a) (.int .i64 o.b) (.int .i64 o.q) (.int .i64 o.n) (.int .i64 o.i) (.slice LA Ln Lc) (.slice PA Pn Pc) = W5 := ⟨_, rfl⟩
      have K5 : Blk W5 g 33 (o.cs (.slice LA Ln Lc) (.slice PA Pn Pc)) := by rw [← hW5]; exact put8_blk _ _ _ _ _ _ _ _ K4.out
      have B5 : Below w.heap.size w W5 := by rw [← hW5]; exact put8_below _ _ _ _ _ _ _ _ b4 (by omega)
      have L5 := put8_own (.int .i64 o.c) (.int .i64 o.a) (.int .i64 o.b) (.int .i64 o.q) (.int .i64 o.n) (.int .i64 o.i) (.slice LA Ln Lc) (.slice PA Pn Pc) hL nL
      have P5 := put8_own (.int .i64 o.c) (.int .i64 o.a) (.int .i64 o.b) (.int .i64 o.q) (.int .i64 o.n) (.int .i64 o.i) (.slice LA Ln Lc) (.slice PA Pn Pc) hP nP
      rw [hW5] at L5 P5
      unfold put8 at hW5
      rw [hW5]
      clear hW5 k40 k41 k42 k43 k44 k45 k46 k47 f40 f41 f42 f43 f44 f45 f46 f47
      have c50 : W5.cell? ⟨g, 0, none⟩ = some (.int .i64 o.c) := K5.cell 0
      have c51 : W5.cell? ⟨g, 1, none⟩ = some (.int .i64 o.a) := K5.cell 1
      have c52 : W5.cell? ⟨g, 2, none⟩ = some (.int .i64 o.b) := K5.cell 2
      have c53 : W5.cell? ⟨g, 3, none⟩ = some (.int .i64 o.q) := K5.cell 3
      have c54 : W5.cell? ⟨g, 4, none⟩ = some (.int .i64 o.n) := K5.cell 4
      have c55 : W5.cell? ⟨g, 5, none⟩ = some (.int .i64 o.i) := K5.cell 5
      have c56 : W5.cell? ⟨g, 6, none⟩ = some (.slice LA Ln Lc) := K5.cell 6
      have c57 : W5.cell? ⟨g, 7, none⟩ = some (.slice PA Pn Pc) := K5.cell 7
      refine bodyPost_ret (v := .tuple #[.agg (o.cs (.slice LA Ln Lc) (.slice PA Pn Pc)), errV 0]) (by simp [results, Tryd.results26, go_sem, c50, c51, c52, c53, c54, c55, c56, c57]; exact ⟨rfl, rfl⟩) rfl ?_
      rw [hres]
      exact ⟨_, _, rfl, own_weaken L5 hwg, own_weaken P5 hwg, B5⟩
    | cons y ys =>
      have r4 : w4.cell? ⟨g + 1, 0, none⟩ = some (.slice A4 (ys.length + 1) c4) := hb4.cell 0
      clear hb4 ho
      go_wp2
      obtain ⟨W5, hW5⟩ : ∃ W5, put8 w4 g (.int .i64 0) (.int .i64 0) (.int .i64 0) (.int .i64 0) (.int .i64 0) (.int .i64 0) (.slice none 0 0) (.slice none 0 0) = W5 := ⟨_, rfl⟩
      have K5 : Blk W5 g 33 (OpM.zero.cs nilS nilS) := by rw [← hW5]; exact put8_blk _ _ _ _ _ _ _ _ K4.out
      have B5 : Below w.heap.size w W5 := by rw [← hW5]; exact put8_below _ _ _ _ _ _ _ _ b4 (by omega)
      unfold put8 at hW5
      rw [hW5]
      clear hW5 k40 k41 k42 k43 k44 k45 k46 k47 f40 f41 f42 f43 f44 f45 f46 f47
      have c50 : W5.cell? ⟨g, 0, none⟩ = some (.int .i64 0) := K5.cell 0
      have c51 : W5.cell? ⟨g, 1, none⟩ = some (.int .i64 0) := K5.cell 1
      have c52 : W5.cell? ⟨g, 2, none⟩ = some (.int .i64 0) := K5.cell 2
      have c53 : W5.cell? ⟨g, 3, none⟩ = some (.int .i64 0) := K5.cell 3
      have c54 : W5.cell? ⟨g, 4, none⟩ = some (.int .i64 0) := K5.cell 4
      have c55 : W5.cell? ⟨g, 5, none⟩ = some (.int .i64 0) := K5.cell 5
      have c56 : W5.cell? ⟨g, 6, none⟩ = some (.slice none 0 0) := K5.cell 6
      have c57 : W5.cell? ⟨g, 7, none⟩ = some (.slice none 0 0) := K5.cell 7
      refine bodyPost_ret (v := .tuple #[.agg (OpM.zero.cs nilS nilS), errV 3]) (by simp [results, Tryd.results26, go_sem, c50, c51, c52, c53, c54, c55, c56, c57]; exact ⟨rfl, (errV_pos (by decide)).symm⟩) rfl ?_
      rw [hres]
      exact DecodeTo.none_ B5

set_option maxRecDepth 100000 in
set_option maxHeartbeats 4000000 in
theorem decode_legs (A : Option Addr) (cap : Nat) (c : Int) (r : List Int) (w : World) (hr : Reads w w.heap.size 1 A (r.length + 1) (intsC (c :: r))) (hcap : r.length + 1 ≤ cap) (hlen : r.length ≤ 17592186044416)
    {i : Nat} (hf : Instr.findNow (.int .i64) (.int .i64 c) readersL 0 = some (some (i, fn_ 75))) :
    Calls Tryd.prog 26 #[.slice A (r.length + 1) cap] w (DecodeTo w (fin (rdLegs c r))) := by
  obtain ⟨g, hgw⟩ : ∃ g, w.heap.size = g := ⟨_, rfl⟩
  obtain ⟨W0, hW0⟩ : ∃ W0, (w.alloc (Obj.cells #[.int .i64 0, .int .i64 0, .int .i64 0, .int .i64 0, .int .i64 0, .int .i64 0, nilS, nilS] 33)).alloc (Obj.cells #[.slice A (r.length + 1) cap] 89) = W0 := ⟨_, rfl⟩
  have b0 : Below w.heap.size w W0 := by rw [← hW0]; exact ((Below.refl _ _).alloc (Nat.le_refl _) _).alloc (by simp) _
  have z0 : W0.heap.size = g + 2 := by rw [← hW0, ← hgw]; simp
  have k0 : Blk W0 g 33 (OpM.zero.cs nilS nilS) := by rw [← hW0, ← hgw]; exact (Blk.new _ _ _).alloc _
  have r0 : Blk W0 (g + 1) 89 #[.slice A (r.length + 1) cap] := by
    rw [← hW0, ← hgw]
    have h := Blk.new (w.alloc (Obj.cells #[.int .i64 0, .int .i64 0, .int .i64 0, .int .i64 0, .int .i64 0, .int .i64 0, nilS, nilS] 33)) 89 #[.slice A (r.length + 1) cap]
    simpa using h
  have hra : RowAt W0 (g + 1) g (c :: r) := ⟨A, cap, r0, hcap, by rw [← hgw]; exact hr.below b0⟩
  have HF := Lib.hid hf
  clear hf hr
  go_enter Tryd.func26, Tryd.ntmps26
  go_wp2_with (fail)
  refine (next_cons (g + 1) g c r W0 hra (by omega)).mono ?_
  rintro e w1 ⟨rfl, hr1, ht1, hs1⟩
  have hm : w1.heap.size = g + 2 := by omega
  have b1 : Below w.heap.size w w1 := ⟨ht1.os.trans b0.os, ht1.tape.trans b0.tape, ht1.output.trans b0.output, Nat.le_trans b0.size ht1.size, fun i hi => (ht1.block i (Nat.lt_of_lt_of_le hi b0.size) (by omega) (by omega)).trans (b0.block i hi)⟩
  have k1 : Blk w1 g 33 (OpM.zero.cs nilS nilS) := ht1.blk k0 (by omega) (by omega)
  obtain ⟨W2, hW2⟩ : ∃ W2, w1.alloc (.map readersL.toArray 8) = W2 := ⟨_, rfl⟩
  have hb2 : W2.heap[g + 2]? = some (.map readersL.toArray 8) := by rw [← hW2, ← hm]; exact heap_alloc_new _ _
  have b12 : Below w1.heap.size w1 W2 := by rw [← hW2]; exact (Below.refl _ _).alloc (Nat.le_refl _) _
  have hm2 : W2.heap.size = g + 3 := by rw [← hW2]; simp [hm]
  have b2 : Below w.heap.size w W2 := b1.trans (b12.mono b1.size)
  have k2 : Blk W2 g 33 (OpM.zero.cs nilS nilS) := k1.below b12 k1.lt
  have hr2 : RowAt W2 (g + 1) g r := hr1.below b12 (by omega)
  have hl := run_look (P := Tryd.prog) (t := 93) (k := 2) (e := 92) (by kernel_rfl) (by kernel_rfl) hb2 c HF.out
  simp only [fn_] at hl
  have hq := run_eql_func (P := Tryd.prog) W2 (t := 92) (by kernel_rfl) (.func 75) #[] #[]
  clear hW0 b0 k0 r0 hra z0 hs1 ht1 b1 k1 b12 hr1 hb2
  go_wp2_with (go_at_call 59; refine (readers_calls _).mono ?_; rintro e w2 ⟨rfl, rfl⟩)
  obtain ⟨W3, hW3⟩ : ∃ W3, W2.alloc (Obj.cells #[.int .i64 c, .int .i64 0, .int .i64 0, .int .i64 0, .int .i64 0, .int .i64 0, nilS, nilS] 33) = W3 := ⟨_, rfl⟩
  have b3 : Below w.heap.size w W3 := by rw [← hW3]; exact b2.alloc b2.size _
  have k3 : Blk W3 g 33 (OpM.zero.cs nilS nilS) := by rw [← hW3]; exact k2.alloc _
  have o3 : Blk W3 (g + 3) 33 (opCs c 0 0 0 0 0 nilS nilS) := by rw [← hW3, ← hm2]; exact Blk.new _ _ _
  have hr3 : RowAt W3 (g + 1) g r := by rw [← hW3]; exact hr2.below ((Below.refl _ _).alloc (Nat.le_refl _) _) (by omega)
  have hm3 : W3.heap.size = g + 4 := by rw [← hW3]; simp [hm2]
  rw [hW3]
  clear b2 k2 hr2
  refine (rd_legs (g + 1) (g + 3) g c r W3 hr3 o3 (by omega) (by omega) (by omega) hlen).mono ?_
  intro e w4 hp
  clear hr3 o3 hl hq hW2 hW3 hm2 hm
  cases hres : rdLegs c r with
  | none =>
    rw [hres] at hp
    obtain ⟨rfl, ht⟩ := hp
    have b4 : Below w.heap.size w w4 := ⟨ht.os.trans b3.os, ht.tape.trans b3.tape, ht.output.trans b3.output, Nat.le_trans b3.size ht.size, fun i hi => (ht.block i (Nat.lt_of_lt_of_le hi b3.size) (by omega) (by omega)).trans (b3.block i hi)⟩
    have k4 : Blk w4 g 33 (OpM.zero.cs nilS nilS) := ht.blk k3 (by omega) (by omega)
    have k40 : w4.cell? ⟨g, 0, none⟩ = some (.int .i64 0) := k4.cell 0
    have k41 : w4.cell? ⟨g, 1, none⟩ = some (.int .i64 0) := k4.cell 1
    have k42 : w4.cell? ⟨g, 2, none⟩ = some (.int .i64 0) := k4.cell 2
    have k43 : w4.cell? ⟨g, 3, none⟩ = some (.int .i64 0) := k4.cell 3
    have k44 : w4.cell? ⟨g, 4, none⟩ = some (.int .i64 0) := k4.cell 4
    have k45 : w4.cell? ⟨g, 5, none⟩ = some (.int .i64 0) := k4.cell 5
    have k46 : w4.cell? ⟨g, 6, none⟩ = some (.slice none 0 0) := k4.cell 6
    have k47 : w4.cell? ⟨g, 7, none⟩ = some (.slice none 0 0) := k4.cell 7
    have f40 := k4.frozen 0
    have f41 := k4.frozen 1
    have f42 := k4.frozen 2
    have f43 := k4.frozen 3
    have f44 := k4.frozen 4
    have f45 := k4.frozen 5
    have f46 := k4.frozen 6
    have f47 := k4.frozen 7
    have K4 := Lib.hid k4
    clear k4 k3
    go_wp2
    obtain ⟨W5, hW5⟩ : ∃ W5, put8 w4 g (.int .i64 0) (.int .i64 0) (.int .i64 0) (.int .i64 0) (.int .i64 0) (.int .i64 0) (.slice none 0 0) (.slice none 0 0) = W5 := ⟨_, rfl⟩
    have K5 : Blk W5 g 33 (OpM.zero.cs nilS nilS) := by rw [← hW5]; exact put8_blk _ _ _ _ _ _ _ _ K4.out
    have B5 : Below w.heap.size w W5 := by rw [← hW5]; exact put8_below _ _ _ _ _ _ _ _ b4 (by omega)
    unfold put8 at hW5
    rw [hW5]
    clear hW5 k40 k41 k42 k43 k44 k45 k46 k47 f40 f41 f42 f43 f44 f45 f46 f47
    have c50 : W5.cell? ⟨g, 0, none⟩ = some (.int .i64 0) := K5.cell 0
    have c51 : W5.cell? ⟨g, 1, none⟩ = some (.int .i64 0) := K5.cell 1
    have c52 : W5.cell? ⟨g, 2, none⟩ = some (.int .i64 0) := K5.cell 2
    have c53 : W5.cell? ⟨g, 3, none⟩ = some (.int .i64 0) := K5.cell 3
    have c54 : W5.cell? ⟨g, 4, none⟩ = some (.int .i64 0) := K5.cell 4
    have c55 : W5.cell? ⟨g, 5, none⟩ = some (.int .i64 0) := K5.cell 5
    have c56 : W5.cell? ⟨g, 6, none⟩ = some (.slice none 0 0) := K5.cell 6
    have c57 : W5.cell? ⟨g, 7, none⟩ = some (.slice none 0 0) := K5.cell 7
    refine bodyPost_ret (v := .tuple #[.agg (OpM.zero.cs nilS nilS), errV 2]) (by simp [results, Tryd.results26, go_sem, c50, c51, c52, c53, c54, c55, c56, c57]; exact ⟨rfl, (errV_pos (by decide)).symm⟩) rfl ?_
    rw [hres]
    exact DecodeTo.none_ B5
  | some p =>
    obtain ⟨o, rem⟩ := p
    rw [hres] at hp
    obtain ⟨rfl, hr4, ht, L, P, hL, hP, ho⟩ := hp
    obtain ⟨LA, Ln, Lc, rfl⟩ := own_slice hL
    obtain ⟨PA, Pn, Pc, rfl⟩ := own_slice hP
    have b4 : Below w.heap.size w w4 := ⟨ht.os.trans b3.os, ht.tape.trans b3.tape, ht.output.trans b3.output, Nat.le_trans b3.size ht.size, fun i hi => (ht.block i (Nat.lt_of_lt_of_le hi b3.size) (by omega) (by omega)).trans (b3.block i hi)⟩
    have k4 : Blk w4 g 33 (OpM.zero.cs nilS nilS) := ht.blk k3 (by omega) (by omega)
    have k40 : w4.cell? ⟨g, 0, none⟩ = some (.int .i64 0) := k4.cell 0
    have k41 : w4.cell? ⟨g, 1, none⟩ = some (.int .i64 0) := k4.cell 1
    have k42 : w4.cell? ⟨g, 2, none⟩ = some (.int .i64 0) := k4.cell 2
    have k43 : w4.cell? ⟨g, 3, none⟩ = some (.int .i64 0) := k4.cell 3
    have k44 : w4.cell? ⟨g, 4, none⟩ = some (.int .i64 0) := k4.cell 4
    have k45 : w4.cell? ⟨g, 5, none⟩ = some (.int .i64 0) := k4.cell 5
    have k46 : w4.cell? ⟨g, 6, none⟩ = some (.slice none 0 0) := k4.cell 6
    have k47 : w4.cell? ⟨g, 7, none⟩ = some (.slice none 0 0) := k4.cell 7
    have f40 := k4.frozen 0
    have f41 := k4.frozen 1
    have f42 := k4.frozen 2
    have f43 := k4.frozen 3
    have f44 := k4.frozen 4
    have f45 := k4.frozen 5
    have f46 := k4.frozen 6
    have f47 := k4.frozen 7
    have K4 := Lib.hid k4
    clear k4 k3
    have nL : (Value.slice LA Ln Lc).ownBlock ≠ some g := fun e => by have := own_base hL e; omega
    have nP : (Value.slice PA Pn Pc).ownBlock ≠ some g := fun e => by have := own_base hP e; omega
    have hwg : w.heap.size ≤ W3.heap.size := b3.size
    have o40 : w4.cell? ⟨g + 3, 0, none⟩ = some (.int .i64 o.c) := ho.cell 0
    have o41 : w4.cell? ⟨g + 3, 1, none⟩ = some (.int .i64 o.a) := ho.cell 1
    have o42 : w4.cell? ⟨g + 3, 2, none⟩ = some (.int .i64 o.b) := ho.cell 2
    have o43 : w4.cell? ⟨g + 3, 3, none⟩ = some (.int .i64 o.q) := ho.cell 3
    have o44 : w4.cell? ⟨g + 3, 4, none⟩ = some (.int .i64 o.n) := ho.cell 4
    have o45 : w4.cell? ⟨g + 3, 5, none⟩ = some (.int .i64 o.i) := ho.cell 5
    have o46 : w4.cell? ⟨g + 3, 6, none⟩ = some (.slice LA Ln Lc) := ho.cell 6
    have o47 : w4.cell? ⟨g + 3, 7, none⟩ = some (.slice PA Pn Pc) := ho.cell 7
    obtain ⟨A4, c4, hb4, _, _⟩ := hr4
    cases rem with
    | nil =>
      have r4 : w4.cell? ⟨g + 1, 0, none⟩ = some (.slice A4 0 c4) := hb4.cell 0
      clear hb4 ho
      go_wp2
      obtain ⟨W5, hW5⟩ : ∃ W5, put8 w4 g (.int .i64 o.c) (.int .i64 o.a) (.int .i64 o.b) (.int .i64 o.q) (.int .i64 o.n) (.int .i64 o.i) (.slice LA Ln Lc) (.slice PA Pn Pc) = W5 := ⟨_, rfl⟩
      have K5 : Blk W5 g 33 (o.cs (.slice LA Ln Lc) (.slice PA Pn Pc)) := by rw [← hW5]; exact put8_blk _ _ _ _ _ _ _ _ K4.out
      have B5 : Below w.heap.size w W5 := by rw [← hW5]; exact put8_below _ _ _ _ _ _ _ _ b4 (by omega)
      have L5 := put8_own (.int .i64 o.c) (.int .i64 o.a) (.int .i64 o.b) (.int .i64 o.q) (.int .i64 o.n) (.int .i64 o.i) (.slice LA Ln Lc) (.slice PA Pn Pc) hL nL
      have P5 := put8_own (.int .i64 o.c) (.int .i64 o.a) (.int .i64 o.b) (.int .i64 o.q) (.int .i64 o.n) (.int .i64 o.i) (.slice LA Ln Lc) (.slice PA Pn Pc) hP nP
      rw [hW5] at L5 P5
      unfold put8 at hW5
      rw [hW5]
      clear hW5 k40 k41 k42 k43 k44 k45 k46 k47 f40 f41 f42 f43 f44 f45 f46 f47
      have c50 : W5.cell? ⟨g, 0, none⟩ = some (.int .i64 o.c) := K5.cell 0
      have c51 : W5.cell? ⟨g, 1, none⟩ = some (.int .i64 o.a) := K5.cell 1
      have c52 : W5.cell? ⟨g, 2, none⟩ = some (.int .i64 o.b) := K5.cell 2
      have c53 : W5.cell? ⟨g, 3, none⟩ = some (.int .i64 o.q) := K5.cell 3
      have c54 : W5.cell? ⟨g, 4, none⟩ = some (.int .i64 o.n) := K5.cell 4
      have c55 : W5.cell? ⟨g, 5, none⟩ = some (.int .i64 o.i) := K5.cell 5
      have c56 : W5.cell? ⟨g, 6, none⟩ = some (.slice LA Ln Lc) := K5.cell 6
      have c57 : W5.cell? ⟨g, 7, none⟩ = some (.slice PA Pn Pc) := K5.cell 7
      refine bodyPost_ret (v := .tuple #[.agg (o.cs (.slice LA Ln Lc) (.slice PA Pn Pc)), errV 0]) (by simp [results, Tryd.results26, go_sem, c50, c51, c52, c53, c54, c55, c56, c57]; exact ⟨rfl, rfl⟩) rfl ?_
      rw [hres]
      exact ⟨_, _, rfl, own_weaken L5 hwg, own_weaken P5 hwg, B5⟩
    | cons y ys =>
      have r4 : w4.cell? ⟨g + 1, 0, none⟩ = some (.slice A4 (ys.length + 1) c4) := hb4.cell 0
      clear hb4 ho
      go_wp2
      obtain ⟨W5, hW5⟩ : ∃ W5, put8 w4 g (.int .i64 0) (.int .i64 0) (.int .i64 0) (.int .i64 0) (.int .i64 0) (.int .i64 0) (.slice none 0 0) (.slice none 0 0) = W5 := ⟨_, rfl⟩
      have K5 : Blk W5 g 33 (OpM.zero.cs nilS nilS) := by rw [← hW5]; exact put8_blk _ _ _ _ _ _ _ _ K4.out
      have B5 : Below w.heap.size w W5 := by rw [← hW5]; exact put8_below _ _ _ _ _ _ _ _ b4 (by omega)
      unfold put8 at hW5
      rw [hW5]
      clear hW5 k40 k41 k42 k43 k44 k45 k46 k47 f40 f41 f42 f43 f44 f45 f46 f47
      have c50 : W5.cell? ⟨g, 0, none⟩ = some (.int .i64 0) := K5.cell 0
      have c51 : W5.cell? ⟨g, 1, none⟩ = some (.int .i64 0) := K5.cell 1
      have c52 : W5.cell? ⟨g, 2, none⟩ = some (.int .i64 0) := K5.cell 2
      have c53 : W5.cell? ⟨g, 3, none⟩ = some (.int .i64 0) := K5.cell 3
      have c54 : W5.cell? ⟨g, 4, none⟩ = some (.int .i64 0) := K5.cell 4
      have c55 : W5.cell? ⟨g, 5, none⟩ = some (.int .i64 0) := K5.cell 5
      have c56 : W5.cell? ⟨g, 6, none⟩ = some (.slice none 0 0) := K5.cell 6
      have c57 : W5.cell? ⟨g, 7, none⟩ = some (.slice none 0 0) := K5.cell 7
      refine bodyPost_ret (v := .tuple #[.agg (OpM.zero.cs nilS nilS), errV 3]) (by simp [results, Tryd.results26, go_sem, c50, c51, c52, c53, c54, c55, c56, c57]; exact ⟨rfl, (errV_pos (by decide)).symm⟩) rfl ?_
      rw [hres]
      exact DecodeTo.none_ B5

set_option maxRecDepth 100000 in
set_option maxHeartbeats 4000000 in
theorem decode_pairs (A : Option Addr) (cap : Nat) (c : Int) (r : List Int) (w : World) (hr : Reads w w.heap.size 1 A (r.length + 1) (intsC (c :: r))) (hcap : r.length + 1 ≤ cap) (hlen : r.length ≤ 17592186044416)
    {i : Nat} (hf : Instr.findNow (.int .i64) (.int .i64 c) readersL 0 = some (some (i, fn_ 77))) :
    Calls Tryd.prog 26 #[.slice A (r.length + 1) cap] w (DecodeTo w (fin (rdPairs c r))) := by
  obtain ⟨g, hgw⟩ : ∃ g, w.heap.size = g := ⟨_, rfl⟩
  obtain ⟨W0, hW0⟩ : ∃ W0, (w.alloc (Obj.cells #[.int .i64 0, .int .i64 0, .int .i64 0, .int .i64 0, .int .i64 0, .int .i64 0, nilS, nilS] 33)).alloc (Obj.cells #[.slice A (r.length + 1) cap] 89) = W0 := ⟨_, rfl⟩
  have b0 : Below w.heap.size w W0 := by rw [← hW0]; exact ((Below.refl _ _).alloc (Nat.le_refl _) _).alloc (by simp) _
  have z0 : W0.heap.size = g + 2 := by rw [← hW0, ← hgw]; simp
  have k0 : Blk W0 g 33 (OpM.zero.cs nilS nilS) := by rw [← hW0, ← hgw]; exact (Blk.new _ _ _).alloc _
  have r0 : Blk W0 (g + 1) 89 #[.slice A (r.length + 1) cap] := by
    rw [← hW0, ← hgw]
    have h := Blk.new (w.alloc (Obj.cells #[.int .i64 0, .int .i64 0, .int .i64 0, .int .i64 0, .int .i64 0, .int .i64 0, nilS, nilS] 33)) 89 #[.slice A (r.length + 1) cap]
    simpa using h
  have hra : RowAt W0 (g + 1) g (c :: r) := ⟨A, cap, r0, hcap, by rw [← hgw]; exact hr.below b0⟩
  have HF := Lib.hid hf
  clear hf hr
  go_enter Tryd.func26, Tryd.ntmps26
  go_wp2_with (fail)
  refine (next_cons (g + 1) g c r W0 hra (by omega)).mono ?_
  rintro e w1 ⟨rfl, hr1, ht1, hs1⟩
  have hm : w1.heap.size = g + 2 := by omega
  have b1 : Below w.heap.size w w1 := ⟨ht1.os.trans b0.os, ht1.tape.trans b0.tape, ht1.output.trans b0.output, Nat.le_trans b0.size ht1.size, fun i hi => (ht1.block i (Nat.lt_of_lt_of_le hi b0.size) (by omega) (by omega)).trans (b0.block i hi)⟩
  have k1 : Blk w1 g 33 (OpM.zero.cs nilS nilS) := ht1.blk k0 (by omega) (by omega)
  obtain ⟨W2, hW2⟩ : ∃ W2, w1.alloc (.map readersL.toArray 8) = W2 := ⟨_, rfl⟩
  have hb2 : W2.heap[g + 2]? = some (.map readersL.toArray 8) := by rw [← hW2, ← hm]; exact heap_alloc_new _ _
  have b12 : Below w1.heap.size w1 W2 := by rw [← hW2]; exact (Below.refl _ _).alloc (Nat.le_refl _) _
  have hm2 : W2.heap.size = g + 3 := by rw [← hW2]; simp [hm]
  have b2 : Below w.heap.size w W2 := b1.trans (b12.mono b1.size)
  have k2 : Blk W2 g 33 (OpM.zero.cs nilS nilS) := k1.below b12 k1.lt
  have hr2 : RowAt W2 (g + 1) g r := hr1.below b12 (by omega)
  have hl := run_look (P := Tryd.prog) (t := 93) (k := 2) (e := 92) (by kernel_rfl) (by kernel_rfl) hb2 c HF.out
  simp only [fn_] at hl
  have hq := run_eql_func (P := Tryd.prog) W2 (t := 92) (by kernel_rfl) (.func 77) #[] #[]
  clear hW0 b0 k0 r0 hra z0 hs1 ht1 b1 k1 b12 hr1 hb2
  go_wp2_with (go_at_call 59; refine (readers_calls _).mono ?_; rintro e w2 ⟨rfl, rfl⟩)
  obtain ⟨W3, hW3⟩ : ∃ W3, W2.alloc (Obj.cells #[.int .i64 c, .int .i64 0, .int .i64 0, .int .i64 0, .int .i64 0, .int .i64 0, nilS, nilS] 33) = W3 := ⟨_, rfl⟩
  have b3 : Below w.heap.size w W3 := by rw [← hW3]; exact b2.alloc b2.size _
  have k3 : Blk W3 g 33 (OpM.zero.cs nilS nilS) := by rw [← hW3]; exact k2.alloc _
  have o3 : Blk W3 (g + 3) 33 (opCs c 0 0 0 0 0 nilS nilS) := by rw [← hW3, ← hm2]; exact Blk.new _ _ _
  have hr3 : RowAt W3 (g + 1) g r := by rw [← hW3]; exact hr2.below ((Below.refl _ _).alloc (Nat.le_refl _) _) (by omega)
  have hm3 : W3.heap.size = g + 4 := by rw [← hW3]; simp [hm2]
  rw [hW3]
  clear b2 k2 hr2
  refine (rd_pairs (g + 1) (g + 3) g c r W3 hr3 o3 (by omega) (by omega) (by omega) hlen).mono ?_
  intro e w4 hp
  clear hr3 o3 hl hq hW2 hW3 hm2 hm
  cases hres : rdPairs c r with
  | none =>
    rw [hres] at hp
    obtain ⟨rfl, ht⟩ := hp
    have b4 : Below w.heap.size w w4 := ⟨ht.os.trans b3.os, ht.tape.trans b3.tape, ht.output.trans b3.output, Nat.le_trans b3.size ht.size, fun i hi => (ht.block i (Nat.lt_of_lt_of_le hi b3.size) (by omega) (by omega)).trans (b3.block i hi)⟩
    have k4 : Blk w4 g 33 (OpM.zero.cs nilS nilS) := ht.blk k3 (by omega) (by omega)
    have k40 : w4.cell? ⟨g, 0, none⟩ = some (.int .i64 0) := k4.cell 0
    have k41 : w4.cell? ⟨g, 1, none⟩ = some (.int .i64 0) := k4.cell 1
    have k42 : w4.cell? ⟨g, 2, none⟩ = some (.int .i64 0) := k4.cell 2
    have k43 : w4.cell? ⟨g, 3, none⟩ = some (.int .i64 0) := k4.cell 3
    have k44 : w4.cell? ⟨g, 4, none⟩ = some (.int .i64 0) := k4.cell 4
    have k45 : w4.cell? ⟨g, 5, none⟩ = some (.int .i64 0) := k4.cell 5
    have k46 : w4.cell? ⟨g, 6, none⟩ = some (.slice none 0 0) := k4.cell 6
    have k47 : w4.cell? ⟨g, 7, none⟩ = some (.slice none 0 0) := k4.cell 7
    have f40 := k4.frozen 0
    have f41 := k4.frozen 1
    have f42 := k4.frozen 2
    have f43 := k4.frozen 3
    have f44 := k4.frozen 4
    have f45 := k4.frozen 5
    have f46 := k4.frozen 6
    have f47 := k4.frozen 7
    have K4 := Lib.hid k4
    clear k4 k3
    go_wp2
    obtain ⟨W5, hW5⟩ : ∃ W5, put8 w4 g (.int .i64 0) (.int .i64 0) (.int .i64 0) (.int .i64 0) (.int .i64 0) (.int .i64 0) (.slice none 0 0) (.slice none 0 0) = W5 := ⟨_, rfl⟩
    have K5 : Blk W5 g 33 (OpM.zero.cs nilS nilS) := by rw [← hW5]; exact put8_blk _ _ _ _ _ _ _ _ K4.out
    have B5 : Below w.heap.size w W5 := by rw [← hW5]; exact put8_below _ _ _ _ _ _ _ _ b4 (by omega)
    unfold put8 at hW5
    rw [hW5]
    clear hW5 k40 k41 k42 k43 k44 k45 k46 k47 f40 f41 f42 f43 f44 f45 f46 f47
    have c50 : W5.cell? ⟨g, 0, none⟩ = some (.int .i64 0) := K5.cell 0
    have c51 : W5.cell? ⟨g, 1, none⟩ = some (.int .i64 0) := K5.cell 1
    have c52 : W5.cell? ⟨g, 2, none⟩ = some (.int .i64 0) := K5.cell 2
    have c53 : W5.cell? ⟨g, 3, none⟩ = some (.int .i64 0) := K5.cell 3
    have c54 : W5.cell? ⟨g, 4, none⟩ = some (.int .i64 0) := K5.cell 4
    have c55 : W5.cell? ⟨g, 5, none⟩ = some (.int .i64 0) := K5.cell 5
    have c56 : W5.cell? ⟨g, 6, none⟩ = some (.slice none 0 0) := K5.cell 6
    have c57 : W5.cell? ⟨g, 7, none⟩ = some (.slice none 0 0) := K5.cell 7
    refine bodyPost_ret (v := .tuple #[.agg (OpM.zero.cs nilS nilS), errV 2]) (by simp [results, Tryd.results26, go_sem, c50, c51, c52, c53, c54, c55, c56, c57]; exact ⟨rfl, (errV_pos (by decide)).symm⟩) rfl ?_
    rw [hres]
    exact DecodeTo.none_ B5
  | some p =>
    obtain ⟨o, rem⟩ := p
    rw [hres] at hp
    obtain ⟨rfl, hr4, ht, L, P, hL, hP, ho⟩ := hp
    obtain ⟨LA, Ln, Lc, rfl⟩ := own_slice hL
    obtain ⟨PA, Pn, Pc, rfl⟩ := own_slice hP
    have b4 : Below w.heap.size w w4 := ⟨ht.os.trans b3.os, ht.tape.trans b3.tape, ht.output.trans b3.output, Nat.le_trans b3.size ht.size, fun i hi => (ht.block i (Nat.lt_of_lt_of_le hi b3.size) (by omega) (by omega)).trans (b3.block i hi)⟩
    have k4 : Blk w4 g 33 (OpM.zero.cs nilS nilS) := ht.blk k3 (by omega) (by omega)
    have k40 : w4.cell? ⟨g, 0, none⟩ = some (.int .i64 0) := k4.cell 0
    have k41 : w4.cell? ⟨g, 1, none⟩ = some (.int .i64 0) := k4.cell 1
    have k42 : w4.cell? ⟨g, 2, none⟩ = some (.int .i64 0) := k4.cell 2
    have k43 : w4.cell? ⟨g, 3, none⟩ = some (.int .i64 0) := k4.cell 3
    have k44 : w4.cell? ⟨g, 4, none⟩ = some (.int .i64 0) := k4.cell 4
    have k45 : w4.cell? ⟨g, 5, none⟩ = some (.int .i64 0) := k4.cell 5
    have k46 : w4.cell? ⟨g, 6, none⟩ = some (.slice none 0 0) := k4.cell 6
    have k47 : w4.cell? ⟨g, 7, none⟩ = some (.slice none 0 0) := k4.cell 7
    have f40 := k4.frozen 0
    have f41 := k4.frozen 1
    have f42 := k4.frozen 2
    have f43 := k4.frozen 3
    have f44 := k4.frozen 4
    have f45 := k4.frozen 5
    have f46 := k4.frozen 6
    have f47 := k4.frozen 7
    have K4 := Lib.hid k4
    clear k4 k3
    have nL : (Value.slice LA Ln Lc).ownBlock ≠ some g := fun e => by have := own_base hL e; omega
    have nP : (Value.slice PA Pn Pc).ownBlock ≠ some g := fun e => by have := own_base hP e; omega
    have hwg : w.heap.size ≤ W3.heap.size := b3.size
    have o40 : w4.cell? ⟨g + 3, 0, none⟩ = some (.int .i64 o.c) := ho.cell 0
    have o41 : w4.cell? ⟨g + 3, 1, none⟩ = some (.int .i64 o.a) := ho.cell 1
    have o42 : w4.cell? ⟨g + 3, 2, none⟩ = some (.int .i64 o.b) := ho.cell 2
    have o43 : w4.cell? ⟨g + 3, 3, none⟩ = some (.int .i64 o.q) := ho.cell 3
    have o44 : w4.cell? ⟨g + 3, 4, none⟩ = some (.int .i64 o.n) := ho.cell 4
    have o45 : w4.cell? ⟨g + 3, 5, none⟩ = some (.int .i64 o.i) := ho.cell 5
    have o46 : w4.cell? ⟨g + 3, 6, none⟩ = some (.slice LA Ln Lc) := ho.cell 6
    have o47 : w4.cell? ⟨g + 3, 7, none⟩ = some (.slice PA Pn Pc) := ho.cell 7
    obtain ⟨A4, c4, hb4, _, _⟩ := hr4
    cases rem with
    | nil =>
      have r4 : w4.cell? ⟨g + 1, 0, none⟩ = some (.slice A4 0 c4) := hb4.cell 0
      clear hb4 ho
      go_wp2
      obtain ⟨W5, hW5⟩ : ∃ W5, put8 w4 g (.int .i64 o.c) (.int .i64 o.a) (.int .i64 o.b) (.int .i64 o.q) (.int .i64 o.n) (.int .i64 o.i) (.slice LA Ln Lc) (.slice PA Pn Pc) = W5 := ⟨_, rfl⟩
      have K5 : Blk W5 g 33 (o.cs (.slice LA Ln Lc) (.slice PA Pn Pc)) := by rw [← hW5]; exact put8_blk _ _ _ _ _ _ _ _ K4.out
      have B5 : Below w.heap.size w W5 := by rw [← hW5]; exact put8_below _ _ _ _ _ _ _ _ b4 (by omega)
      have L5 := put8_own (.int .i64 o.c) (.int .i64 o.a) (.int .i64 o.b) (.int .i64 o.q) (.int .i64 o.n) (.int .i64 o.i) (.slice LA Ln Lc) (.slice PA Pn Pc) hL nL
      have P5 := put8_own (.int .i64 o.c) (.int .i64 o.a) (.int .i64 o.b) (.int .i64 o.q) (.int .i64 o.n) (.int .i64 o.i) (.slice LA Ln Lc) (.slice PA Pn Pc) hP nP
      rw [hW5] at L5 P5
      unfold put8 at hW5
      rw [hW5]
      clear hW5 k40 k41 k42 k43 k44 k45 k46 k47 f40 f41 f42 f43 f44 f45 f46 f47
      have c50 : W5.cell? ⟨g, 0, none⟩ = some (.int .i64 o.c) := K5.cell 0
      have c51 : W5.cell? ⟨g, 1, none⟩ = some (.int .i64 o.a) := K5.cell 1
      have c52 : W5.cell? ⟨g, 2, none⟩ = some (.int .i64 o.b) := K5.cell 2
      have c53 : W5.cell? ⟨g, 3, none⟩ = some (.int .i64 o.q) := K5.cell 3
      have c54 : W5.cell? ⟨g, 4, none⟩ = some (.int .i64 o.n) := K5.cell 4
      have c55 : W5.cell? ⟨g, 5, none⟩ = some (.int .i64 o.i) := K5.cell 5
      have c56 : W5.cell? ⟨g, 6, none⟩ = some (.slice LA Ln Lc) := K5.cell 6
      have c57 : W5.cell? ⟨g, 7, none⟩ = some (.slice PA Pn Pc) := K5.cell 7
      refine bodyPost_ret (v := .tuple #[.agg (o.cs (.slice LA Ln Lc) (.slice PA Pn Pc)), errV 0]) (by simp [results, Tryd.results26, go_sem, c50, c51, c52, c53, c54, c55, c56, c57]; exact ⟨rfl, rfl⟩) rfl ?_
      rw [hres]
      exact ⟨_, _, rfl, own_weaken L5 hwg, own_weaken P5 hwg, B5⟩
    | cons y ys =>
      have r4 : w4.cell? ⟨g + 1, 0, none⟩ = some (.slice A4 (ys.length + 1) c4) := hb4.cell 0
      clear hb4 ho
      go_wp2
      obtain ⟨W5, hW5⟩ : ∃ W5, put8 w4 g (.int .i64 0) (.int .i64 0) (.int .i64 0) (.int .i64 0) (.int .i64 0) (.int .i64 0) (.slice none 0 0) (.slice none 0 0) = W5 := ⟨_, rfl⟩
      have K5 : Blk W5 g 33 (OpM.zero.cs nilS nilS) := by rw [← hW5]; exact put8_blk _ _ _ _ _ _ _ _ K4.out
      have B5 : Below w.heap.size w W5 := by rw [← hW5]; exact put8_below _ _ _ _ _ _ _ _ b4 (by omega)
      unfold put8 at hW5
      rw [hW5]
      clear hW5 k40 k41 k42 k43 k44 k45 k46 k47 f40 f41 f42 f43 f44 f45 f46 f47
      have c50 : W5.cell? ⟨g, 0, none⟩ = some (.int .i64 0) := K5.cell 0
      have c51 : W5.cell? ⟨g, 1, none⟩ = some (.int .i64 0) := K5.cell 1
      have c52 : W5.cell? ⟨g, 2, none⟩ = some (.int .i64 0) := K5.cell 2
      have c53 : W5.cell? ⟨g, 3, none⟩ = some (.int .i64 0) := K5.cell 3
      have c54 : W5.cell? ⟨g, 4, none⟩ = some (.int .i64 0) := K5.cell 4
      have c55 : W5.cell? ⟨g, 5, none⟩ = some (.int .i64 0) := K5.cell 5
      have c56 : W5.cell? ⟨g, 6, none⟩ = some (.slice none 0 0) := K5.cell 6
      have c57 : W5.cell? ⟨g, 7, none⟩ = some (.slice none 0 0) := K5.cell 7
      refine bodyPost_ret (v := .tuple #[.agg (OpM.zero.cs nilS nilS), errV 3]) (by simp [results, Tryd.results26, go_sem, c50, c51, c52, c53, c54, c55, c56, c57]; exact ⟨rfl, (errV_pos (by decide)).symm⟩) rfl ?_
      rw [hres]
      exact DecodeTo.none_ B5

set_option maxRecDepth 100000 in
set_option maxHeartbeats 4000000 in
theorem decode_other (A : Option Addr) (cap : Nat) (c : Int) (r : List Int) (w : World) (hr : Reads w w.heap.size 1 A (r.length + 1) (intsC (c :: r))) (hcap : r.length + 1 ≤ cap) (hlen : r.length ≤ 17592186044416)
    (hf : Instr.findNow (.int .i64) (.int .i64 c) readersL 0 = some none) :
    Calls Tryd.prog 26 #[.slice A (r.length + 1) cap] w (DecodeTo w (OpM.zero, 13)) := by
  obtain ⟨g, hgw⟩ : ∃ g, w.heap.size = g := ⟨_, rfl⟩
  obtain ⟨W0, hW0⟩ : ∃ W0, (w.alloc (Obj.cells #[.int .i64 0, .int .i64 0, .int .i64 0, .int .i64 0, .int .i64 0, .int .i64 0, nilS, nilS] 33)).alloc (Obj.cells #[.slice A (r.length + 1) cap] 89) = W0 := ⟨_, rfl⟩
  have b0 : Below w.heap.size w W0 := by rw [← hW0]; exact ((Below.refl _ _).alloc (Nat.le_refl _) _).alloc (by simp) _
  have z0 : W0.heap.size = g + 2 := by rw [← hW0, ← hgw]; simp
  have k0 : Blk W0 g 33 (OpM.zero.cs nilS nilS) := by rw [← hW0, ← hgw]; exact (Blk.new _ _ _).alloc _
  have r0 : Blk W0 (g + 1) 89 #[.slice A (r.length + 1) cap] := by
    rw [← hW0, ← hgw]
    have h := Blk.new (w.alloc (Obj.cells #[.int .i64 0, .int .i64 0, .int .i64 0, .int .i64 0, .int .i64 0, .int .i64 0, nilS, nilS] 33)) 89 #[.slice A (r.length + 1) cap]
    simpa using h
  have hra : RowAt W0 (g + 1) g (c :: r) := ⟨A, cap, r0, hcap, by rw [← hgw]; exact hr.below b0⟩
  have HF := Lib.hid hf
  clear hf hr
  go_enter Tryd.func26, Tryd.ntmps26
  go_wp2_with (fail)
  refine (next_cons (g + 1) g c r W0 hra (by omega)).mono ?_
  rintro e w1 ⟨rfl, hr1, ht1, hs1⟩
  have hm : w1.heap.size = g + 2 := by omega
  have b1 : Below w.heap.size w w1 := ⟨ht1.os.trans b0.os, ht1.tape.trans b0.tape, ht1.output.trans b0.output, Nat.le_trans b0.size ht1.size, fun i hi => (ht1.block i (Nat.lt_of_lt_of_le hi b0.size) (by omega) (by omega)).trans (b0.block i hi)⟩
  have k1 : Blk w1 g 33 (OpM.zero.cs nilS nilS) := ht1.blk k0 (by omega) (by omega)
  obtain ⟨W2, hW2⟩ : ∃ W2, w1.alloc (.map readersL.toArray 8) = W2 := ⟨_, rfl⟩
  have hb2 : W2.heap[g + 2]? = some (.map readersL.toArray 8) := by rw [← hW2, ← hm]; exact heap_alloc_new _ _
  have b12 : Below w1.heap.size w1 W2 := by rw [← hW2]; exact (Below.refl _ _).alloc (Nat.le_refl _) _
  have hm2 : W2.heap.size = g + 3 := by rw [← hW2]; simp [hm]
  have b2 : Below w.heap.size w W2 := b1.trans (b12.mono b1.size)
  have k2 : Blk W2 g 33 (OpM.zero.cs nilS nilS) := k1.below b12 k1.lt
  have hr2 : RowAt W2 (g + 1) g r := hr1.below b12 (by omega)
  have hl := run_look_none (P := Tryd.prog) (t := 93) (k := 2) (e := 92) (by kernel_rfl) (by kernel_rfl) hb2 c zeroRd HF.out
  have hq := run_eql_nilFunc (P := Tryd.prog) W2 (t := 92) (by kernel_rfl)
  clear hW0 b0 k0 r0 hra z0 hs1 ht1 b1 k1 b12 hr1 hb2
  have k40 : W2.cell? ⟨g, 0, none⟩ = some (.int .i64 0) := k2.cell 0
  have k41 : W2.cell? ⟨g, 1, none⟩ = some (.int .i64 0) := k2.cell 1
  have k42 : W2.cell? ⟨g, 2, none⟩ = some (.int .i64 0) := k2.cell 2
  have k43 : W2.cell? ⟨g, 3, none⟩ = some (.int .i64 0) := k2.cell 3
  have k44 : W2.cell? ⟨g, 4, none⟩ = some (.int .i64 0) := k2.cell 4
  have k45 : W2.cell? ⟨g, 5, none⟩ = some (.int .i64 0) := k2.cell 5
  have k46 : W2.cell? ⟨g, 6, none⟩ = some (.slice none 0 0) := k2.cell 6
  have k47 : W2.cell? ⟨g, 7, none⟩ = some (.slice none 0 0) := k2.cell 7
  have f40 := k2.frozen 0
  have f41 := k2.frozen 1
  have f42 := k2.frozen 2
  have f43 := k2.frozen 3
  have f44 := k2.frozen 4
  have f45 := k2.frozen 5
  have f46 := k2.frozen 6
  have f47 := k2.frozen 7
  have K4 := Lib.hid k2
  clear k2 hr2
  go_wp2_with (go_at_call 59; refine (readers_calls _).mono ?_; rintro e w2 ⟨rfl, rfl⟩)
  obtain ⟨W5, hW5⟩ : ∃ W5, put8 W2 g (.int .i64 0) (.int .i64 0) (.int .i64 0) (.int .i64 0) (.int .i64 0) (.int .i64 0) (.slice none 0 0) (.slice none 0 0) = W5 := ⟨_, rfl⟩
  have K5 : Blk W5 g 33 (OpM.zero.cs nilS nilS) := by rw [← hW5]; exact put8_blk _ _ _ _ _ _ _ _ K4.out
  have B5 : Below w.heap.size w W5 := by rw [← hW5]; exact put8_below _ _ _ _ _ _ _ _ b2 (by omega)
  unfold put8 at hW5
  rw [hW5]
  clear hW5 k40 k41 k42 k43 k44 k45 k46 k47 f40 f41 f42 f43 f44 f45 f46 f47
  have c50 : W5.cell? ⟨g, 0, none⟩ = some (.int .i64 0) := K5.cell 0
  have c51 : W5.cell? ⟨g, 1, none⟩ = some (.int .i64 0) := K5.cell 1
  have c52 : W5.cell? ⟨g, 2, none⟩ = some (.int .i64 0) := K5.cell 2
  have c53 : W5.cell? ⟨g, 3, none⟩ = some (.int .i64 0) := K5.cell 3
  have c54 : W5.cell? ⟨g, 4, none⟩ = some (.int .i64 0) := K5.cell 4
  have c55 : W5.cell? ⟨g, 5, none⟩ = some (.int .i64 0) := K5.cell 5
  have c56 : W5.cell? ⟨g, 6, none⟩ = some (.slice none 0 0) := K5.cell 6
  have c57 : W5.cell? ⟨g, 7, none⟩ = some (.slice none 0 0) := K5.cell 7
  refine bodyPost_ret (v := .tuple #[.agg (OpM.zero.cs nilS nilS), errV 13]) (by simp [results, Tryd.results26, go_sem, c50, c51, c52, c53, c54, c55, c56, c57]; exact ⟨rfl, (errV_pos (by decide)).symm⟩) rfl ?_
  exact DecodeTo.none_ B5

end Go.Proofs.YtmdkcggmnejkoaaDoor
