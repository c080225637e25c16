/- custodyref16.Own. -/
import Derived.Test.YtmdkcggmnejkoaaDoorCopy
import Derived.Test.YtmdkcggmnejkoaaDoorWorks
namespace Go.Proofs.YtmdkcggmnejkoaaDoor
set_option linter.unusedSimpArgs false
set_option linter.unusedVariables false
open Go.RowKit

/-- An operation with its own fields alone. -/
def ownM (o : Op) : Op :=
  if o.code = 1 ∨ o.code = 2 then ⟨o.code, o.acc, o.ast, o.qty, 0, 0, [], []⟩
  else if o.code = 3 ∨ o.code = 4 then ⟨o.code, o.acc, o.ast, o.qty, o.name, 0, [], []⟩
  else if o.code = 5 then ⟨o.code, 0, 0, 0, 0, o.id, o.legs, []⟩
  else if o.code = 6 ∨ o.code = 7 then ⟨o.code, 0, 0, 0, 0, o.id, [], []⟩
  else if o.code = 8 then ⟨o.code, 0, 0, 0, 0, 0, [], o.pairs⟩
  else ⟨o.code, 0, 0, 0, 0, 0, [], []⟩
def OwnTo (w : World) (o : Op) (e : Ending) (w' : World) : Prop :=
  ∃ L P, e = .returned (.agg (opCs o.code o.acc o.ast o.qty o.name o.id L P)) ∧ w'.ownsRow w.heap.size 45 5 L o.legs.length (legsC o.legs) ∧ w'.ownsRow w.heap.size 47 2 P o.pairs.length (keysC o.pairs) ∧ Below w.heap.size w w'

set_option maxRecDepth 100000 in
set_option maxHeartbeats 4000000 in
theorem own_1 (a b q n i : Int) (ln pn : Nat) (LA PA : Option Addr) (lc pc : Nat) (w : World) :
    Calls Tryd.prog 32 #[.agg #[.int .i64 1, .int .i64 a, .int .i64 b, .int .i64 q, .int .i64 n, .int .i64 i, .slice LA ln lc, .slice PA pn pc]] w (OwnTo w ⟨1, a, b, q, 0, 0, [], []⟩) := by
  go_enter Tryd.func32, Tryd.ntmps32
  go_wp2
  refine bodyPost_ret (v := .agg (opCs 1 a b q 0 0 nilS nilS)) (by simp [results, Tryd.results32, go_sem]; rfl) rfl ?_
  exact ⟨nilS, nilS, rfl, World.ownsRow_nil _ _ _ _, World.ownsRow_nil _ _ _ _, (((Below.refl _ _).alloc (Nat.le_refl _) _).alloc (by simp) _).alloc (by simp; omega) _⟩

set_option maxRecDepth 100000 in
set_option maxHeartbeats 4000000 in
theorem own_2 (a b q n i : Int) (ln pn : Nat) (LA PA : Option Addr) (lc pc : Nat) (w : World) :
    Calls Tryd.prog 32 #[.agg #[.int .i64 2, .int .i64 a, .int .i64 b, .int .i64 q, .int .i64 n, .int .i64 i, .slice LA ln lc, .slice PA pn pc]] w (OwnTo w ⟨2, a, b, q, 0, 0, [], []⟩) := by
  go_enter Tryd.func32, Tryd.ntmps32
  go_wp2
  refine bodyPost_ret (v := .agg (opCs 2 a b q 0 0 nilS nilS)) (by simp [results, Tryd.results32, go_sem]; rfl) rfl ?_
  exact ⟨nilS, nilS, rfl, World.ownsRow_nil _ _ _ _, World.ownsRow_nil _ _ _ _, (((Below.refl _ _).alloc (Nat.le_refl _) _).alloc (by simp) _).alloc (by simp; omega) _⟩

set_option maxRecDepth 100000 in
set_option maxHeartbeats 4000000 in
theorem own_3 (a b q n i : Int) (ln pn : Nat) (LA PA : Option Addr) (lc pc : Nat) (w : World) :
    Calls Tryd.prog 32 #[.agg #[.int .i64 3, .int .i64 a, .int .i64 b, .int .i64 q, .int .i64 n, .int .i64 i, .slice LA ln lc, .slice PA pn pc]] w (OwnTo w ⟨3, a, b, q, n, 0, [], []⟩) := by
  go_enter Tryd.func32, Tryd.ntmps32
  go_wp2
  refine bodyPost_ret (v := .agg (opCs 3 a b q n 0 nilS nilS)) (by simp [results, Tryd.results32, go_sem]; rfl) rfl ?_
  exact ⟨nilS, nilS, rfl, World.ownsRow_nil _ _ _ _, World.ownsRow_nil _ _ _ _, (((Below.refl _ _).alloc (Nat.le_refl _) _).alloc (by simp) _).alloc (by simp; omega) _⟩

set_option maxRecDepth 100000 in
set_option maxHeartbeats 4000000 in
theorem own_4 (a b q n i : Int) (ln pn : Nat) (LA PA : Option Addr) (lc pc : Nat) (w : World) :
    Calls Tryd.prog 32 #[.agg #[.int .i64 4, .int .i64 a, .int .i64 b, .int .i64 q, .int .i64 n, .int .i64 i, .slice LA ln lc, .slice PA pn pc]] w (OwnTo w ⟨4, a, b, q, n, 0, [], []⟩) := by
  go_enter Tryd.func32, Tryd.ntmps32
  go_wp2
  refine bodyPost_ret (v := .agg (opCs 4 a b q n 0 nilS nilS)) (by simp [results, Tryd.results32, go_sem]; rfl) rfl ?_
  exact ⟨nilS, nilS, rfl, World.ownsRow_nil _ _ _ _, World.ownsRow_nil _ _ _ _, (((Below.refl _ _).alloc (Nat.le_refl _) _).alloc (by simp) _).alloc (by simp; omega) _⟩

set_option maxRecDepth 100000 in
set_option maxHeartbeats 4000000 in
theorem own_6 (a b q n i : Int) (ln pn : Nat) (LA PA : Option Addr) (lc pc : Nat) (w : World) :
    Calls Tryd.prog 32 #[.agg #[.int .i64 6, .int .i64 a, .int .i64 b, .int .i64 q, .int .i64 n, .int .i64 i, .slice LA ln lc, .slice PA pn pc]] w (OwnTo w ⟨6, 0, 0, 0, 0, i, [], []⟩) := by
  go_enter Tryd.func32, Tryd.ntmps32
  go_wp2
  refine bodyPost_ret (v := .agg (opCs 6 0 0 0 0 i nilS nilS)) (by simp [results, Tryd.results32, go_sem]; rfl) rfl ?_
  exact ⟨nilS, nilS, rfl, World.ownsRow_nil _ _ _ _, World.ownsRow_nil _ _ _ _, (((Below.refl _ _).alloc (Nat.le_refl _) _).alloc (by simp) _).alloc (by simp; omega) _⟩

set_option maxRecDepth 100000 in
set_option maxHeartbeats 4000000 in
theorem own_7 (a b q n i : Int) (ln pn : Nat) (LA PA : Option Addr) (lc pc : Nat) (w : World) :
    Calls Tryd.prog 32 #[.agg #[.int .i64 7, .int .i64 a, .int .i64 b, .int .i64 q, .int .i64 n, .int .i64 i, .slice LA ln lc, .slice PA pn pc]] w (OwnTo w ⟨7, 0, 0, 0, 0, i, [], []⟩) := by
  go_enter Tryd.func32, Tryd.ntmps32
  go_wp2
  refine bodyPost_ret (v := .agg (opCs 7 0 0 0 0 i nilS nilS)) (by simp [results, Tryd.results32, go_sem]; rfl) rfl ?_
  exact ⟨nilS, nilS, rfl, World.ownsRow_nil _ _ _ _, World.ownsRow_nil _ _ _ _, (((Below.refl _ _).alloc (Nat.le_refl _) _).alloc (by simp) _).alloc (by simp; omega) _⟩

set_option maxRecDepth 100000 in
set_option maxHeartbeats 4000000 in
theorem own_other (c a b q n i : Int) (ln pn : Nat) (LA PA : Option Addr) (lc pc : Nat) (w : World) (h1 : (c == 1) = false) (h2 : (c == 2) = false) (h3 : (c == 3) = false) (h4 : (c == 4) = false) (h5 : (c == 5) = false) (h6 : (c == 6) = false) (h7 : (c == 7) = false) (h8 : (c == 8) = false) :
    Calls Tryd.prog 32 #[.agg #[.int .i64 c, .int .i64 a, .int .i64 b, .int .i64 q, .int .i64 n, .int .i64 i, .slice LA ln lc, .slice PA pn pc]] w (OwnTo w ⟨c, 0, 0, 0, 0, 0, [], []⟩) := by
  go_enter Tryd.func32, Tryd.ntmps32
  go_wp2
  refine bodyPost_ret (v := .agg (opCs c 0 0 0 0 0 nilS nilS)) (by simp [results, Tryd.results32, go_sem]; rfl) rfl ?_
  exact ⟨nilS, nilS, rfl, World.ownsRow_nil _ _ _ _, World.ownsRow_nil _ _ _ _, (((Below.refl _ _).alloc (Nat.le_refl _) _).alloc (by simp) _).alloc (by simp; omega) _⟩

set_option maxRecDepth 100000 in
set_option maxHeartbeats 4000000 in
theorem own_5 (l : List Leg) (a b q n i : Int) (pn : Nat) (LA PA : Option Addr) (lc pc : Nat) (w : World) (hr : Reads w w.heap.size 5 LA l.length (legsC l)) (hlen : l.length * 40 ≤ 140737488351232) :
    Calls Tryd.prog 32 #[.agg #[.int .i64 5, .int .i64 a, .int .i64 b, .int .i64 q, .int .i64 n, .int .i64 i, .slice LA l.length lc, .slice PA pn pc]] w (OwnTo w ⟨5, 0, 0, 0, 0, i, l, []⟩) := by
  obtain ⟨g, hg⟩ : ∃ g, w.heap.size = g := ⟨_, rfl⟩
  go_enter Tryd.func32, Tryd.ntmps32
  go_wp2_with (fail)
  obtain ⟨W1, hW1⟩ : ∃ W1, ((w.alloc (Obj.cells #[.int .i64 5, .int .i64 a, .int .i64 b, .int .i64 q, .int .i64 n, .int .i64 i, .slice LA l.length lc, .slice PA pn pc] 33)).alloc (Obj.cells #[.int .i64 0, .int .i64 0, .int .i64 0, .int .i64 0, .int .i64 0, .int .i64 0, .slice none 0 0, .slice none 0 0] 33)).alloc (Obj.cells #[.int .i64 5, .int .i64 0, .int .i64 0, .int .i64 0, .int .i64 0, .int .i64 i, .slice none 0 0, .slice none 0 0] 33) = W1 := ⟨_, rfl⟩
  have b1 : Below w.heap.size w W1 := by rw [← hW1]; exact (((Below.refl _ _).alloc (Nat.le_refl _) _).alloc (by simp) _).alloc (by simp; omega) _
  have k2' : Blk W1 (g + 1) 33 #[.int .i64 0, .int .i64 0, .int .i64 0, .int .i64 0, .int .i64 0, .int .i64 0, .slice none 0 0, .slice none 0 0] := by rw [← hW1, ← hg]; have h := (Blk.new (w.alloc (Obj.cells #[.int .i64 5, .int .i64 a, .int .i64 b, .int .i64 q, .int .i64 n, .int .i64 i, .slice LA l.length lc, .slice PA pn pc] 33)) 33 #[.int .i64 0, .int .i64 0, .int .i64 0, .int .i64 0, .int .i64 0, .int .i64 0, .slice none 0 0, .slice none 0 0]).alloc (Obj.cells #[.int .i64 5, .int .i64 0, .int .i64 0, .int .i64 0, .int .i64 0, .int .i64 i, .slice none 0 0, .slice none 0 0] 33); simpa using h
  have k3' : Blk W1 (g + 2) 33 #[.int .i64 5, .int .i64 0, .int .i64 0, .int .i64 0, .int .i64 0, .int .i64 i, .slice none 0 0, .slice none 0 0] := by rw [← hW1, ← hg]; have h := Blk.new ((w.alloc (Obj.cells #[.int .i64 5, .int .i64 a, .int .i64 b, .int .i64 q, .int .i64 n, .int .i64 i, .slice LA l.length lc, .slice PA pn pc] 33)).alloc (Obj.cells #[.int .i64 0, .int .i64 0, .int .i64 0, .int .i64 0, .int .i64 0, .int .i64 0, .slice none 0 0, .slice none 0 0] 33)) 33 #[.int .i64 5, .int .i64 0, .int .i64 0, .int .i64 0, .int .i64 0, .int .i64 i, .slice none 0 0, .slice none 0 0]; simpa using h
  rw [hW1]
  clear hW1
  refine (copyLegs_calls l _ _ w.heap.size W1 (hr.below b1) b1.size hlen).mono ?_
  rintro e w1 ⟨v, rfl, hv, hb⟩
  obtain ⟨XA, Xc, rfl⟩ := own_slice_n hv
  generalize hXn : l.length = Xn at hv
  have k2 := k2'.below hb k2'.lt
  have k3 := k3'.below hb k3'.lt
  have b2 : Below w.heap.size w w1 := b1.trans (hb.mono b1.size)
  have l3 := k3'.lt
  have x0 : w1.cell? ⟨g + 2, 0, none⟩ = some (.int .i64 5) := k3.cell 0
  have xf0 := k3.frozen 0
  have r0 : w1.cell? ⟨g + 1, 0, none⟩ = some (.int .i64 0) := k2.cell 0
  have rf0 := k2.frozen 0
  have x1 : w1.cell? ⟨g + 2, 1, none⟩ = some (.int .i64 0) := k3.cell 1
  have xf1 := k3.frozen 1
  have r1 : w1.cell? ⟨g + 1, 1, none⟩ = some (.int .i64 0) := k2.cell 1
  have rf1 := k2.frozen 1
  have x2 : w1.cell? ⟨g + 2, 2, none⟩ = some (.int .i64 0) := k3.cell 2
  have xf2 := k3.frozen 2
  have r2 : w1.cell? ⟨g + 1, 2, none⟩ = some (.int .i64 0) := k2.cell 2
  have rf2 := k2.frozen 2
  have x3 : w1.cell? ⟨g + 2, 3, none⟩ = some (.int .i64 0) := k3.cell 3
  have xf3 := k3.frozen 3
  have r3 : w1.cell? ⟨g + 1, 3, none⟩ = some (.int .i64 0) := k2.cell 3
  have rf3 := k2.frozen 3
  have x4 : w1.cell? ⟨g + 2, 4, none⟩ = some (.int .i64 0) := k3.cell 4
  have xf4 := k3.frozen 4
  have r4 : w1.cell? ⟨g + 1, 4, none⟩ = some (.int .i64 0) := k2.cell 4
  have rf4 := k2.frozen 4
  have x5 : w1.cell? ⟨g + 2, 5, none⟩ = some (.int .i64 i) := k3.cell 5
  have xf5 := k3.frozen 5
  have r5 : w1.cell? ⟨g + 1, 5, none⟩ = some (.int .i64 0) := k2.cell 5
  have rf5 := k2.frozen 5
  have x6 : w1.cell? ⟨g + 2, 6, none⟩ = some (.slice none 0 0) := k3.cell 6
  have xf6 := k3.frozen 6
  have r6 : w1.cell? ⟨g + 1, 6, none⟩ = some (.slice none 0 0) := k2.cell 6
  have rf6 := k2.frozen 6
  have x7 : w1.cell? ⟨g + 2, 7, none⟩ = some (.slice none 0 0) := k3.cell 7
  have xf7 := k3.frozen 7
  have r7 : w1.cell? ⟨g + 1, 7, none⟩ = some (.slice none 0 0) := k2.cell 7
  have rf7 := k2.frozen 7
  clear k2' k3'
  have K2 := Lib.hid k2
  have K3 := Lib.hid k3
  clear k2 k3
  go_wp2
  have nv : (Value.slice XA Xn Xc).ownBlock ≠ some (g + 1) := fun e => by have := own_base hv e; omega
  obtain ⟨W5, hW5⟩ : ∃ W5, put8 (w1.setCell ⟨g + 1 + 1, 6, none⟩ (.slice XA Xn Xc)) (g + 1) (.int .i64 5) (.int .i64 0) (.int .i64 0) (.int .i64 0) (.int .i64 0) (.int .i64 i) (.slice XA Xn Xc) (.slice none 0 0) = W5 := ⟨_, rfl⟩
  have K5 : Blk W5 (g + 1) 33 #[.int .i64 5, .int .i64 0, .int .i64 0, .int .i64 0, .int .i64 0, .int .i64 i, .slice XA Xn Xc, .slice none 0 0] := by rw [← hW5]; exact put8_blk _ _ _ _ _ _ _ _ (K2.out.far (by simp) _)
  have B5 : Below w.heap.size w W5 := by rw [← hW5]; exact put8_below _ _ _ _ _ _ _ _ (b2.setCell (by show w.heap.size ≤ g + 1 + 1; omega) _) (by omega)
  have H5 := put8_own (.int .i64 5) (.int .i64 0) (.int .i64 0) (.int .i64 0) (.int .i64 0) (.int .i64 i) (.slice XA Xn Xc) (.slice none 0 0) (ownsRow_setCell_below hv (a := ⟨g + 1 + 1, 6, none⟩) (by show g + 1 + 1 < _; omega) (.slice XA Xn Xc)) nv
  rw [hW5] at H5
  unfold put8 at hW5
  rw [hW5]
  clear hW5
  have c50 : W5.cell? ⟨g + 1, 0, none⟩ = some (.int .i64 5) := K5.cell 0
  have c51 : W5.cell? ⟨g + 1, 1, none⟩ = some (.int .i64 0) := K5.cell 1
  have c52 : W5.cell? ⟨g + 1, 2, none⟩ = some (.int .i64 0) := K5.cell 2
  have c53 : W5.cell? ⟨g + 1, 3, none⟩ = some (.int .i64 0) := K5.cell 3
  have c54 : W5.cell? ⟨g + 1, 4, none⟩ = some (.int .i64 0) := K5.cell 4
  have c55 : W5.cell? ⟨g + 1, 5, none⟩ = some (.int .i64 i) := K5.cell 5
  have c56 : W5.cell? ⟨g + 1, 6, none⟩ = some (.slice XA Xn Xc) := K5.cell 6
  have c57 : W5.cell? ⟨g + 1, 7, none⟩ = some (.slice none 0 0) := K5.cell 7
  refine bodyPost_ret (v := .agg #[.int .i64 5, .int .i64 0, .int .i64 0, .int .i64 0, .int .i64 0, .int .i64 i, .slice XA Xn Xc, .slice none 0 0]) (by simp [results, Tryd.results32, go_sem, c50, c51, c52, c53, c54, c55, c56, c57]) rfl ?_
  subst hXn
  exact ⟨_, nilS, rfl, own_weaken H5 b1.size, World.ownsRow_nil _ _ _ _, B5⟩

set_option maxRecDepth 100000 in
set_option maxHeartbeats 4000000 in
theorem own_8 (l : List Key) (a b q n i : Int) (ln : Nat) (LA PA : Option Addr) (lc pc : Nat) (w : World) (hr : Reads w w.heap.size 2 PA l.length (keysC l)) (hlen : l.length * 16 ≤ 140737488351232) :
    Calls Tryd.prog 32 #[.agg #[.int .i64 8, .int .i64 a, .int .i64 b, .int .i64 q, .int .i64 n, .int .i64 i, .slice LA ln lc, .slice PA l.length pc]] w (OwnTo w ⟨8, 0, 0, 0, 0, 0, [], l⟩) := by
  obtain ⟨g, hg⟩ : ∃ g, w.heap.size = g := ⟨_, rfl⟩
  go_enter Tryd.func32, Tryd.ntmps32
  go_wp2_with (fail)
  obtain ⟨W1, hW1⟩ : ∃ W1, ((w.alloc (Obj.cells #[.int .i64 8, .int .i64 a, .int .i64 b, .int .i64 q, .int .i64 n, .int .i64 i, .slice LA ln lc, .slice PA l.length pc] 33)).alloc (Obj.cells #[.int .i64 0, .int .i64 0, .int .i64 0, .int .i64 0, .int .i64 0, .int .i64 0, .slice none 0 0, .slice none 0 0] 33)).alloc (Obj.cells #[.int .i64 8, .int .i64 0, .int .i64 0, .int .i64 0, .int .i64 0, .int .i64 0, .slice none 0 0, .slice none 0 0] 33) = W1 := ⟨_, rfl⟩
  have b1 : Below w.heap.size w W1 := by rw [← hW1]; exact (((Below.refl _ _).alloc (Nat.le_refl _) _).alloc (by simp) _).alloc (by simp; omega) _
  have k2' : Blk W1 (g + 1) 33 #[.int .i64 0, .int .i64 0, .int .i64 0, .int .i64 0, .int .i64 0, .int .i64 0, .slice none 0 0, .slice none 0 0] := by rw [← hW1, ← hg]; have h := (Blk.new (w.alloc (Obj.cells #[.int .i64 8, .int .i64 a, .int .i64 b, .int .i64 q, .int .i64 n, .int .i64 i, .slice LA ln lc, .slice PA l.length pc] 33)) 33 #[.int .i64 0, .int .i64 0, .int .i64 0, .int .i64 0, .int .i64 0, .int .i64 0, .slice none 0 0, .slice none 0 0]).alloc (Obj.cells #[.int .i64 8, .int .i64 0, .int .i64 0, .int .i64 0, .int .i64 0, .int .i64 0, .slice none 0 0, .slice none 0 0] 33); simpa using h
  have k3' : Blk W1 (g + 2) 33 #[.int .i64 8, .int .i64 0, .int .i64 0, .int .i64 0, .int .i64 0, .int .i64 0, .slice none 0 0, .slice none 0 0] := by rw [← hW1, ← hg]; have h := Blk.new ((w.alloc (Obj.cells #[.int .i64 8, .int .i64 a, .int .i64 b, .int .i64 q, .int .i64 n, .int .i64 i, .slice LA ln lc, .slice PA l.length pc] 33)).alloc (Obj.cells #[.int .i64 0, .int .i64 0, .int .i64 0, .int .i64 0, .int .i64 0, .int .i64 0, .slice none 0 0, .slice none 0 0] 33)) 33 #[.int .i64 8, .int .i64 0, .int .i64 0, .int .i64 0, .int .i64 0, .int .i64 0, .slice none 0 0, .slice none 0 0]; simpa using h
  rw [hW1]
  clear hW1
  refine (copyKeys_calls l _ _ w.heap.size W1 (hr.below b1) b1.size hlen).mono ?_
  rintro e w1 ⟨v, rfl, hv, hb⟩
  obtain ⟨XA, Xc, rfl⟩ := own_slice_n hv
  generalize hXn : l.length = Xn at hv
  have k2 := k2'.below hb k2'.lt
  have k3 := k3'.below hb k3'.lt
  have b2 : Below w.heap.size w w1 := b1.trans (hb.mono b1.size)
  have l3 := k3'.lt
  have x0 : w1.cell? ⟨g + 2, 0, none⟩ = some (.int .i64 8) := k3.cell 0
  have xf0 := k3.frozen 0
  have r0 : w1.cell? ⟨g + 1, 0, none⟩ = some (.int .i64 0) := k2.cell 0
  have rf0 := k2.frozen 0
  have x1 : w1.cell? ⟨g + 2, 1, none⟩ = some (.int .i64 0) := k3.cell 1
  have xf1 := k3.frozen 1
  have r1 : w1.cell? ⟨g + 1, 1, none⟩ = some (.int .i64 0) := k2.cell 1
  have rf1 := k2.frozen 1
  have x2 : w1.cell? ⟨g + 2, 2, none⟩ = some (.int .i64 0) := k3.cell 2
  have xf2 := k3.frozen 2
  have r2 : w1.cell? ⟨g + 1, 2, none⟩ = some (.int .i64 0) := k2.cell 2
  have rf2 := k2.frozen 2
  have x3 : w1.cell? ⟨g + 2, 3, none⟩ = some (.int .i64 0) := k3.cell 3
  have xf3 := k3.frozen 3
  have r3 : w1.cell? ⟨g + 1, 3, none⟩ = some (.int .i64 0) := k2.cell 3
  have rf3 := k2.frozen 3
  have x4 : w1.cell? ⟨g + 2, 4, none⟩ = some (.int .i64 0) := k3.cell 4
  have xf4 := k3.frozen 4
  have r4 : w1.cell? ⟨g + 1, 4, none⟩ = some (.int .i64 0) := k2.cell 4
  have rf4 := k2.frozen 4
  have x5 : w1.cell? ⟨g + 2, 5, none⟩ = some (.int .i64 0) := k3.cell 5
  have xf5 := k3.frozen 5
  have r5 : w1.cell? ⟨g + 1, 5, none⟩ = some (.int .i64 0) := k2.cell 5
  have rf5 := k2.frozen 5
  have x6 : w1.cell? ⟨g + 2, 6, none⟩ = some (.slice none 0 0) := k3.cell 6
  have xf6 := k3.frozen 6
  have r6 : w1.cell? ⟨g + 1, 6, none⟩ = some (.slice none 0 0) := k2.cell 6
  have rf6 := k2.frozen 6
  have x7 : w1.cell? ⟨g + 2, 7, none⟩ = some (.slice none 0 0) := k3.cell 7
  have xf7 := k3.frozen 7
  have r7 : w1.cell? ⟨g + 1, 7, none⟩ = some (.slice none 0 0) := k2.cell 7
  have rf7 := k2.frozen 7
  clear k2' k3'
  have K2 := Lib.hid k2
  have K3 := Lib.hid k3
  clear k2 k3
  go_wp2
  have nv : (Value.slice XA Xn Xc).ownBlock ≠ some (g + 1) := fun e => by have := own_base hv e; omega
  obtain ⟨W5, hW5⟩ : ∃ W5, put8 (w1.setCell ⟨g + 1 + 1, 7, none⟩ (.slice XA Xn Xc)) (g + 1) (.int .i64 8) (.int .i64 0) (.int .i64 0) (.int .i64 0) (.int .i64 0) (.int .i64 0) (.slice none 0 0) (.slice XA Xn Xc) = W5 := ⟨_, rfl⟩
  have K5 : Blk W5 (g + 1) 33 #[.int .i64 8, .int .i64 0, .int .i64 0, .int .i64 0, .int .i64 0, .int .i64 0, .slice none 0 0, .slice XA Xn Xc] := by rw [← hW5]; exact put8_blk _ _ _ _ _ _ _ _ (K2.out.far (by simp) _)
  have B5 : Below w.heap.size w W5 := by rw [← hW5]; exact put8_below _ _ _ _ _ _ _ _ (b2.setCell (by show w.heap.size ≤ g + 1 + 1; omega) _) (by omega)
  have H5 := put8_own (.int .i64 8) (.int .i64 0) (.int .i64 0) (.int .i64 0) (.int .i64 0) (.int .i64 0) (.slice none 0 0) (.slice XA Xn Xc) (ownsRow_setCell_below hv (a := ⟨g + 1 + 1, 7, none⟩) (by show g + 1 + 1 < _; omega) (.slice XA Xn Xc)) nv
  rw [hW5] at H5
  unfold put8 at hW5
  rw [hW5]
  clear hW5
  have c50 : W5.cell? ⟨g + 1, 0, none⟩ = some (.int .i64 8) := K5.cell 0
  have c51 : W5.cell? ⟨g + 1, 1, none⟩ = some (.int .i64 0) := K5.cell 1
  have c52 : W5.cell? ⟨g + 1, 2, none⟩ = some (.int .i64 0) := K5.cell 2
  have c53 : W5.cell? ⟨g + 1, 3, none⟩ = some (.int .i64 0) := K5.cell 3
  have c54 : W5.cell? ⟨g + 1, 4, none⟩ = some (.int .i64 0) := K5.cell 4
  have c55 : W5.cell? ⟨g + 1, 5, none⟩ = some (.int .i64 0) := K5.cell 5
  have c56 : W5.cell? ⟨g + 1, 6, none⟩ = some (.slice none 0 0) := K5.cell 6
  have c57 : W5.cell? ⟨g + 1, 7, none⟩ = some (.slice XA Xn Xc) := K5.cell 7
  refine bodyPost_ret (v := .agg #[.int .i64 8, .int .i64 0, .int .i64 0, .int .i64 0, .int .i64 0, .int .i64 0, .slice none 0 0, .slice XA Xn Xc]) (by simp [results, Tryd.results32, go_sem, c50, c51, c52, c53, c54, c55, c56, c57]) rfl ?_
  subst hXn
  exact ⟨nilS, _, rfl, World.ownsRow_nil _ _ _ _, own_weaken H5 b1.size, B5⟩

theorem own_calls (o : Op) (LA PA : Option Addr) (lc pc : Nat) (w : World) (hrL : Reads w w.heap.size 5 LA o.legs.length (legsC o.legs)) (hrP : Reads w w.heap.size 2 PA o.pairs.length (keysC o.pairs)) (hl : o.legs.length * 40 ≤ 140737488351232) (hp : o.pairs.length * 16 ≤ 140737488351232) :
    Calls Tryd.prog 32 #[.agg #[.int .i64 o.code, .int .i64 o.acc, .int .i64 o.ast, .int .i64 o.qty, .int .i64 o.name, .int .i64 o.id, .slice LA o.legs.length lc, .slice PA o.pairs.length pc]] w (OwnTo w (ownM o)) := by
  obtain ⟨c, a, b, q, n, i, ls, ks⟩ := o
  unfold ownM
  dsimp only at hrL hrP hl hp ⊢
  by_cases h1 : c = 1
  · subst h1; exact own_1 a b q n i _ _ LA PA lc pc w
  by_cases h2 : c = 2
  · subst h2; exact own_2 a b q n i _ _ LA PA lc pc w
  by_cases h3 : c = 3
  · subst h3; exact own_3 a b q n i _ _ LA PA lc pc w
  by_cases h4 : c = 4
  · subst h4; exact own_4 a b q n i _ _ LA PA lc pc w
  by_cases h5 : c = 5
  · subst h5; exact own_5 ls a b q n i _ LA PA lc pc w hrL hl
  by_cases h6 : c = 6
  · subst h6; exact own_6 a b q n i _ _ LA PA lc pc w
  by_cases h7 : c = 7
  · subst h7; exact own_7 a b q n i _ _ LA PA lc pc w
  by_cases h8 : c = 8
  · subst h8; exact own_8 ks a b q n i _ LA PA lc pc w hrP hp
  rw [if_neg (by omega), if_neg (by omega), if_neg h5, if_neg (by omega), if_neg h8]
  exact own_other c a b q n i _ _ LA PA lc pc w (beq_eq_false_iff_ne.2 h1) (beq_eq_false_iff_ne.2 h2) (beq_eq_false_iff_ne.2 h3) (beq_eq_false_iff_ne.2 h4) (beq_eq_false_iff_ne.2 h5) (beq_eq_false_iff_ne.2 h6) (beq_eq_false_iff_ne.2 h7) (beq_eq_false_iff_ne.2 h8)
end Go.Proofs.YtmdkcggmnejkoaaDoor
