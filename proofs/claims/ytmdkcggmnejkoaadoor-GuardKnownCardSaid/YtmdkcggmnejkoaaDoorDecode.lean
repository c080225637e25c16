/- guard.Decode's readers of a row, by contracts. -/
import Derived.Test.YtmdkcggmnejkoaaDoorKit0
import Derived.Deep.RegionHeld3
namespace Go.Proofs.YtmdkcggmnejkoaaDoor
set_option linter.unusedSimpArgs false
set_option linter.unusedVariables false
open Go.RowKit

/-- Only the blocks a and b of what lay there may have turned. -/
structure Two (w w' : World) (a b : Nat) : Prop where
  os : w'.os = w.os
  tape : w'.tape = w.tape
  output : w'.output = w.output
  size : w.heap.size ≤ w'.heap.size
  block : ∀ i, i < w.heap.size → i ≠ a → i ≠ b → w'.heap[i]? = w.heap[i]?
theorem Two.refl (w : World) (a b : Nat) : Two w w a b := ⟨rfl, rfl, rfl, Nat.le_refl _, fun _ _ _ _ => rfl⟩
theorem Two.trans {w w1 w2 : World} {a b : Nat} (h : Two w w1 a b) (k : Two w1 w2 a b) : Two w w2 a b :=
  ⟨k.os.trans h.os, k.tape.trans h.tape, k.output.trans h.output, Nat.le_trans h.size k.size, fun i hi ha hb => (k.block i (Nat.lt_of_lt_of_le hi h.size) ha hb).trans (h.block i hi ha hb)⟩
theorem Two.set_ {w w1 : World} {a b : Nat} (h : Two w w1 a b) {p : Addr} (hp : p.block = a ∨ p.block = b ∨ w.heap.size ≤ p.block) (u : Value) : Two w (w1.setCell p u) a b :=
  ⟨h.os, h.tape, h.output, by simpa [World.setCell] using h.size, fun i hi ha hb => (Below.heap_setCell w1 p u i (by omega)).trans (h.block i hi ha hb)⟩
theorem Two.alloc {w w1 : World} {a b : Nat} (h : Two w w1 a b) (o : Obj) : Two w (w1.alloc o) a b :=
  ⟨h.os, h.tape, h.output, by have := h.size; simp; omega, fun i hi ha hb => (Below.heap_alloc w1 o i (Nat.lt_of_lt_of_le hi h.size)).trans (h.block i hi ha hb)⟩
theorem Two.swap {w w' : World} {a b : Nat} (h : Two w w' a b) : Two w w' b a := ⟨h.os, h.tape, h.output, h.size, fun i hi ha hb => h.block i hi hb ha⟩
theorem Two.below {w w' : World} {a b B : Nat} (h : Two w w' a b) (hB : B ≤ w.heap.size) (ha : B ≤ a) (hb : B ≤ b) : Below B w w' := ⟨h.os, h.tape, h.output, h.size, fun i hi => h.block i (by omega) (by omega) (by omega)⟩
theorem Two.of_below {w w' : World} {a b : Nat} (h : Below w.heap.size w w') : Two w w' a b := ⟨h.os, h.tape, h.output, h.size, fun i hi _ _ => h.block i hi⟩
theorem Two.blk {w w' : World} {a b g : Nat} {t : TypeId} {cs : Array Value} (h : Two w w' a b) (hg : Blk w g t cs) (ha : g ≠ a) (hb : g ≠ b) : Blk w' g t cs := (h.block g hg.lt ha hb).trans hg
theorem Two.reads {w w' : World} {a b B s n : Nat} {A : Option Addr} {xs : List Value} (h : Two w w' a b) (hr : Reads w B s A n xs) (ha : B ≤ a) (hb : B ≤ b) (hB : B ≤ w.heap.size) : Reads w' B s A n xs :=
  hr.keep fun p hp => World.cell?_of_block (h.block p.block (by omega) (by omega) (by omega))

/-- The row at block gr: what is left of it. -/
def RowAt (w : World) (gr B : Nat) (rem : List Int) : Prop :=
  ∃ A c, Blk w gr 89 #[.slice A rem.length c] ∧ rem.length ≤ c ∧ Reads w B 1 A rem.length (intsC rem)

set_option maxRecDepth 100000 in
theorem next_nil (gr B : Nat) (w : World) (h : RowAt w gr B []) : Calls Tryd.prog 58 #[.pointer (some ⟨gr, 0, none⟩)] w fun e w' => e = .returned (.tuple #[.int .i64 0, .bool false]) ∧ w = w' := by
  obtain ⟨A, c, hb, _, _⟩ := h
  have hc : w.cell? ⟨gr, 0, none⟩ = some (.slice A 0 c) := hb.cell 0
  clear hb
  go_enter Tryd.func58, Tryd.ntmps58
  go_wp2
  go_ret2
  exact ⟨rfl, rfl⟩

def NextTo (w : World) (gr B : Nat) (x : Int) (r : List Int) (e : Ending) (w' : World) : Prop :=
  e = .returned (.tuple #[.int .i64 x, .bool true]) ∧ RowAt w' gr B r ∧ Two w w' gr gr ∧ w'.heap.size = w.heap.size

set_option maxRecDepth 100000 in
set_option maxHeartbeats 1000000 in
theorem next_cons (gr B : Nat) (x : Int) (r : List Int) (w : World) (h : RowAt w gr B (x :: r)) (hB : B ≤ gr) : Calls Tryd.prog 58 #[.pointer (some ⟨gr, 0, none⟩)] w (NextTo w gr B x r) := by
  obtain ⟨A, c, hb, hcap, hr⟩ := h
  have hlen : (x :: r).length = r.length + 1 := rfl
  rw [hlen] at hb hcap hr
  have hc : w.cell? ⟨gr, 0, none⟩ = some (.slice A (r.length + 1) c) := hb.cell 0
  have hf : w.frozen? ⟨gr, 0, none⟩ = false := hb.frozen 0
  obtain ⟨ad, e, hadb, hcell⟩ := hr.2 (by omega)
  subst e
  have h0 : w.cell? (ad.add 0) = some (.int .i64 x) := hcell 0 _ rfl
  have ha0 : ad.add 0 = ad := by simp [Addr.add]
  rw [ha0] at h0
  have hz : (((r.length + 1 : Nat) : Int) == 0) = false := beq_eq_false_iff_ne.2 (by omega)
  have hz2 : (((r.length : Nat) : Int) + 1 == 0) = false := beq_eq_false_iff_ne.2 (by omega)
  have HZ := Lib.hid hlen
  have cut := hr.cut (k := 1) (cap := c) (by omega) hcap
  have CUT := Lib.hid cut
  have HB := Lib.hid hb
  clear hlen hb cut hcell ha0
  by_cases hc1 : c = 1
  · go_enter Tryd.func58, Tryd.ntmps58
    go_wp2
    go_ret2
    have hcut := CUT.out
    rw [if_pos hc1] at hcut
    exact ⟨rfl, ⟨_, 0, HB.out.set_ 0 _, by omega, hcut.setCell hB _⟩, (Two.refl _ _ _).set_ (.inl rfl) _, by simp [World.setCell]⟩
  · go_enter Tryd.func58, Tryd.ntmps58
    go_wp2
    go_ret2
    have hcut := CUT.out
    rw [if_neg hc1] at hcut
    have e1 : ad.add (1 * 1) = ⟨ad.block, ad.off + 1, none⟩ := by simp [Addr.add]
    simp only [Option.map_some, e1] at hcut
    exact ⟨rfl, ⟨_, c - 1, HB.out.set_ 0 _, by omega, hcut.setCell hB _⟩, (Two.refl _ _ _).set_ (.inl rfl) _, by simp [World.setCell]⟩

/-- An int at the address p gets the row's next number. -/
theorem number_nil (gr B : Nat) (p : Addr) (old : Int) (w : World) (h : RowAt w gr B []) (hc : w.cell? p = some (.int .i64 old)) (hf : w.frozen? p = false) :
    Calls Tryd.prog 82 #[.pointer (some ⟨gr, 0, none⟩), .pointer (some p)] w fun e w' => e = .returned (.bool false) ∧ w' = w.setCell p (.int .i64 0) := by
  go_enter Tryd.func82, Tryd.ntmps82
  go_wp2_with (go_at_call 58; refine (next_nil gr B _ h).mono ?_; rintro e w' ⟨rfl, rfl⟩)
  go_ret
  exact ⟨rfl, rfl⟩
def NumTo (w : World) (gr B : Nat) (p : Addr) (x : Int) (r : List Int) (e : Ending) (w' : World) : Prop :=
  e = .returned (.bool true) ∧ ∃ w1, RowAt w1 gr B r ∧ Two w w1 gr gr ∧ w1.heap.size = w.heap.size ∧ w' = w1.setCell p (.int .i64 x)
theorem number_cons (gr B : Nat) (p : Addr) (old x : Int) (r : List Int) (w : World) (h : RowAt w gr B (x :: r)) (hB : B ≤ gr) (hne : p.block ≠ gr) (hc : w.cell? p = some (.int .i64 old)) (hf : w.frozen? p = false) :
    Calls Tryd.prog 82 #[.pointer (some ⟨gr, 0, none⟩), .pointer (some p)] w (NumTo w gr B p x r) := by
  go_enter Tryd.func82, Tryd.ntmps82
  go_wp2_with (go_at_call 58; refine (next_cons gr B x r _ h hB).mono ?_; rintro e w1 ⟨rfl, hr1, ht1, hs1⟩; have hc1 := (World.cell?_of_block (ht1.block p.block (World.block_lt_of_cell? w p hc) hne hne)).trans hc; have hf1 := (World.frozen?_of_block (ht1.block p.block (World.block_lt_of_cell? w p hc) hne hne)).trans hf)
  go_ret
  exact ⟨rfl, w1, hr1, ht1, hs1, rfl⟩

theorem RowAt.far {w : World} {gr B : Nat} {rem : List Int} (h : RowAt w gr B rem) {p : Addr} (hp : p.block ≠ gr) (hB : B ≤ p.block) (u : Value) : RowAt (w.setCell p u) gr B rem := by
  obtain ⟨A, c, hb, hc, hr⟩ := h
  exact ⟨A, c, hb.far (Ne.symm hp) u, hc, hr.setCell hB u⟩
theorem RowAt.below {w w' : World} {gr B : Nat} {rem : List Int} (h : RowAt w gr B rem) (hb : Below w.heap.size w w') (hB : B ≤ w.heap.size) : RowAt w' gr B rem := by
  obtain ⟨A, c, hk, hc, hr⟩ := h
  exact ⟨A, c, hk.below hb hk.lt, hc, hr.below (hb.mono hB)⟩
theorem RowAt.lt {w : World} {gr B : Nat} {rem : List Int} (h : RowAt w gr B rem) : gr < w.heap.size := by
  obtain ⟨A, c, hk, _⟩ := h
  exact hk.lt
theorem RowAt.two {w w' : World} {gr B a b : Nat} {rem : List Int} (h : RowAt w gr B rem) (ht : Two w w' a b) (h1 : gr ≠ a) (h2 : gr ≠ b) (ha : B ≤ a) (hb : B ≤ b) (hB : B ≤ w.heap.size) : RowAt w' gr B rem := by
  obtain ⟨A, c, hk, hc, hr⟩ := h
  exact ⟨A, c, ht.blk hk h1 h2, hc, ht.reads hr ha hb hB⟩

/-- The field j of the struct at block go gets the row's next number. -/
def FieldTo (w : World) (gr go B : Nat) (T : TypeId) (cs : Array Value) (r : List Int) (b : Bool) (e : Ending) (w' : World) : Prop :=
  e = .returned (.bool b) ∧ RowAt w' gr B r ∧ Blk w' go T cs ∧ Two w w' gr go ∧ w'.heap.size = w.heap.size
theorem field_cons (gr go B j : Nat) (T : TypeId) (cs : Array Value) (old x : Int) (r : List Int) (w : World) (h : RowAt w gr B (x :: r)) (hg : Blk w go T cs) (hj : cs[j]? = some (.int .i64 old)) (hB : B ≤ gr) (hB2 : B ≤ go) (hne : go ≠ gr) :
    Calls Tryd.prog 82 #[.pointer (some ⟨gr, 0, none⟩), .pointer (some ⟨go, j, none⟩)] w (FieldTo w gr go B T (cs.setIfInBounds j (.int .i64 x)) r true) := by
  refine (number_cons gr B ⟨go, j, none⟩ old x r w h hB hne ((hg.cell j).trans hj) (hg.frozen j)).mono ?_
  rintro e w' ⟨rfl, w1, hr1, ht1, hs1, rfl⟩
  exact ⟨rfl, hr1.far hne hB2 _, (ht1.blk hg hne hne).set_ j _, Two.set_ ⟨ht1.os, ht1.tape, ht1.output, ht1.size, fun i hi ha _ => ht1.block i hi ha ha⟩ (.inr (.inl rfl)) _, by simpa [World.setCell] using hs1⟩
theorem field_nil (gr go B j : Nat) (T : TypeId) (cs : Array Value) (old : Int) (w : World) (h : RowAt w gr B []) (hg : Blk w go T cs) (hj : cs[j]? = some (.int .i64 old)) (hB2 : B ≤ go) (hne : go ≠ gr) :
    Calls Tryd.prog 82 #[.pointer (some ⟨gr, 0, none⟩), .pointer (some ⟨go, j, none⟩)] w (FieldTo w gr go B T (cs.setIfInBounds j (.int .i64 0)) [] false) := by
  refine (number_nil gr B ⟨go, j, none⟩ old w h ((hg.cell j).trans hj) (hg.frozen j)).mono ?_
  rintro e w' ⟨rfl, rfl⟩
  exact ⟨rfl, h.far hne hB2 _, hg.set_ j _, (Two.refl _ _ _).set_ (.inr (.inl rfl)) _, by simp [World.setCell]⟩

def FailTo (w : World) (gr go : Nat) (e : Ending) (w' : World) : Prop := e = .returned (.bool false) ∧ Two w w' gr go

/-- The cells of an operation that is being read: code and lists as values, numbers as numbers. -/
def opCs (c0 a b q n i : Int) (L P : Value) : Array Value := #[.int .i64 c0, .int .i64 a, .int .i64 b, .int .i64 q, .int .i64 n, .int .i64 i, L, P]

set_option maxRecDepth 100000 in
set_option maxHeartbeats 1000000 in
theorem id_cons (gr go B : Nat) (c0 a b q n i x : Int) (L P : Value) (r : List Int) (w : World) (h : RowAt w gr B (x :: r)) (hg : Blk w go 33 (opCs c0 a b q n i L P)) (hB : B ≤ gr) (hB2 : B ≤ go) (hne : go ≠ gr) :
    Calls Tryd.prog 76 #[.pointer (some ⟨gr, 0, none⟩), .pointer (some ⟨go, 0, none⟩)] w (FieldTo w gr go B 33 (opCs c0 a b q n x L P) r true) := by
  go_enter Tryd.func76, Tryd.ntmps76
  go_wp2_with (go_at_call 82; refine (field_cons gr go B 5 _ _ i x r _ h hg rfl hB hB2 hne).mono ?_; rintro e w1 ⟨rfl, hr1, hg1, ht1, hs1⟩)
  go_ret
  exact ⟨rfl, hr1, hg1, ht1, hs1⟩
theorem id_nil (gr go B : Nat) (c0 a b q n i : Int) (L P : Value) (w : World) (h : RowAt w gr B []) (hg : Blk w go 33 (opCs c0 a b q n i L P)) (hB2 : B ≤ go) (hne : go ≠ gr) :
    Calls Tryd.prog 76 #[.pointer (some ⟨gr, 0, none⟩), .pointer (some ⟨go, 0, none⟩)] w (FailTo w gr go) := by
  go_enter Tryd.func76, Tryd.ntmps76
  go_wp2_with (go_at_call 82; refine (field_nil gr go B 5 _ _ i _ h hg rfl hB2 hne).mono ?_; rintro e w1 ⟨rfl, hr1, hg1, ht1, hs1⟩)
  go_ret
  exact ⟨rfl, ht1⟩

set_option maxRecDepth 100000 in
set_option maxHeartbeats 2000000 in
theorem held_ok (gr go B : Nat) (c0 a b q n i x y z : Int) (L P : Value) (r : List Int) (w : World) (h : RowAt w gr B (x :: y :: z :: r)) (hg : Blk w go 33 (opCs c0 a b q n i L P)) (hB : B ≤ gr) (hB2 : B ≤ go) (hne : go ≠ gr) :
    Calls Tryd.prog 73 #[.pointer (some ⟨gr, 0, none⟩), .pointer (some ⟨go, 0, none⟩)] w (FieldTo w gr go B 33 (opCs c0 x y z n i L P) r true) := by
  go_enter Tryd.func73, Tryd.ntmps73
  go_wp2_with (fail)
  refine (field_cons gr go B 1 _ _ a x _ _ h hg rfl hB hB2 hne).mono ?_
  rintro e w1 ⟨rfl, hr1, hg1, ht1, hs1⟩
  go_wp2_with (fail)
  refine (field_cons gr go B 2 _ (opCs c0 x b q n i L P) b y _ _ hr1 hg1 rfl hB hB2 hne).mono ?_
  rintro e w2 ⟨rfl, hr2, hg2, ht2, hs2⟩
  go_wp2_with (fail)
  refine (next_cons gr B z r _ hr2 hB).mono ?_
  rintro e w3 ⟨rfl, hr3, ht3, hs3⟩
  have hg3 : Blk w3 go 33 (opCs c0 x y q n i L P) := ht3.blk hg2 hne hne
  have hc : w3.cell? ⟨go, 3, none⟩ = some (.int .i64 q) := hg3.cell 3
  have hf : w3.frozen? ⟨go, 3, none⟩ = false := hg3.frozen 3
  go_wp2
  go_ret
  exact ⟨rfl, hr3.far hne hB2 _, hg3.set_ 3 _, ((ht1.trans ht2).trans ⟨ht3.os, ht3.tape, ht3.output, ht3.size, fun i hi ha _ => ht3.block i hi ha ha⟩).set_ (.inr (.inl rfl)) _, by simp [World.setCell, hs1, hs2, hs3]⟩
set_option maxRecDepth 100000 in
set_option maxHeartbeats 2000000 in
theorem held_fail (gr go B : Nat) (c0 a b q n i : Int) (L P : Value) (r : List Int) (w : World) (h : RowAt w gr B r) (hl : r.length < 3) (hg : Blk w go 33 (opCs c0 a b q n i L P)) (hB : B ≤ gr) (hB2 : B ≤ go) (hne : go ≠ gr) :
    Calls Tryd.prog 73 #[.pointer (some ⟨gr, 0, none⟩), .pointer (some ⟨go, 0, none⟩)] w (FailTo w gr go) := by
  match r, hl with
  | [], _ =>
    go_enter Tryd.func73, Tryd.ntmps73
    go_wp2_with (go_at_call 82; refine (field_nil gr go B 1 _ _ a _ h hg rfl hB2 hne).mono ?_; rintro e w1 ⟨rfl, hr1, hg1, ht1, hs1⟩)
    go_ret
    exact ⟨rfl, ht1⟩
  | [x], _ =>
    go_enter Tryd.func73, Tryd.ntmps73
    go_wp2_with (fail)
    refine (field_cons gr go B 1 _ _ a x _ _ h hg rfl hB hB2 hne).mono ?_
    rintro e w1 ⟨rfl, hr1, hg1, ht1, hs1⟩
    go_wp2_with (go_at_call 82; refine (field_nil gr go B 2 _ (opCs c0 x b q n i L P) b _ hr1 hg1 rfl hB2 hne).mono ?_; rintro e w2 ⟨rfl, hr2, hg2, ht2, hs2⟩)
    go_ret
    exact ⟨rfl, ht1.trans ht2⟩
  | [x, y], _ =>
    go_enter Tryd.func73, Tryd.ntmps73
    go_wp2_with (fail)
    refine (field_cons gr go B 1 _ _ a x _ _ h hg rfl hB hB2 hne).mono ?_
    rintro e w1 ⟨rfl, hr1, hg1, ht1, hs1⟩
    go_wp2_with (fail)
    refine (field_cons gr go B 2 _ (opCs c0 x b q n i L P) b y _ _ hr1 hg1 rfl hB hB2 hne).mono ?_
    rintro e w2 ⟨rfl, hr2, hg2, ht2, hs2⟩
    go_wp2_with (fail)
    refine (next_nil gr B _ hr2).mono ?_
    rintro e w3 ⟨rfl, rfl⟩
    have hc : w2.cell? ⟨go, 3, none⟩ = some (.int .i64 q) := hg2.cell 3
    have hf : w2.frozen? ⟨go, 3, none⟩ = false := hg2.frozen 3
    go_wp2
    go_ret
    exact ⟨rfl, (ht1.trans ht2).set_ (.inr (.inl rfl)) _⟩

set_option maxRecDepth 100000 in
set_option maxHeartbeats 1000000 in
theorem marked_ok (gr go B : Nat) (c0 a b q n i x y z m : Int) (L P : Value) (r : List Int) (w : World) (h : RowAt w gr B (x :: y :: z :: m :: r)) (hg : Blk w go 33 (opCs c0 a b q n i L P)) (hB : B ≤ gr) (hB2 : B ≤ go) (hne : go ≠ gr) :
    Calls Tryd.prog 74 #[.pointer (some ⟨gr, 0, none⟩), .pointer (some ⟨go, 0, none⟩)] w (FieldTo w gr go B 33 (opCs c0 x y z m i L P) r true) := by
  go_enter Tryd.func74, Tryd.ntmps74
  go_wp2_with (fail)
  refine (held_ok gr go B c0 a b q n i x y z L P _ _ h hg hB hB2 hne).mono ?_
  rintro e w1 ⟨rfl, hr1, hg1, ht1, hs1⟩
  go_wp2_with (go_at_call 82; refine (field_cons gr go B 4 _ _ n m _ _ hr1 hg1 rfl hB hB2 hne).mono ?_; rintro e w2 ⟨rfl, hr2, hg2, ht2, hs2⟩)
  go_ret
  exact ⟨rfl, hr2, hg2, ht1.trans ht2, hs2.trans hs1⟩
set_option maxRecDepth 100000 in
set_option maxHeartbeats 1000000 in
theorem marked_fail (gr go B : Nat) (c0 a b q n i : Int) (L P : Value) (r : List Int) (w : World) (h : RowAt w gr B r) (hl : r.length < 4) (hg : Blk w go 33 (opCs c0 a b q n i L P)) (hB : B ≤ gr) (hB2 : B ≤ go) (hne : go ≠ gr) :
    Calls Tryd.prog 74 #[.pointer (some ⟨gr, 0, none⟩), .pointer (some ⟨go, 0, none⟩)] w (FailTo w gr go) := by
  by_cases h3 : r.length < 3
  · go_enter Tryd.func74, Tryd.ntmps74
    go_wp2_with (go_at_call 73; refine (held_fail gr go B c0 a b q n i L P r _ h h3 hg hB hB2 hne).mono ?_; rintro e w1 ⟨rfl, ht1⟩)
    go_ret
    exact ⟨rfl, ht1⟩
  · match r, hl, h3 with
    | [x, y, z], _, _ =>
      go_enter Tryd.func74, Tryd.ntmps74
      go_wp2_with (fail)
      refine (held_ok gr go B c0 a b q n i x y z L P _ _ h hg hB hB2 hne).mono ?_
      rintro e w1 ⟨rfl, hr1, hg1, ht1, hs1⟩
      go_wp2_with (go_at_call 82; refine (field_nil gr go B 4 _ _ n _ hr1 hg1 rfl hB2 hne).mono ?_; rintro e w2 ⟨rfl, hr2, hg2, ht2, hs2⟩)
      go_ret
      exact ⟨rfl, ht1.trans ht2⟩
    | [], _, h => exact absurd (by simp) h
    | [_], _, h => exact absurd (by simp) h
    | [_, _], _, h => exact absurd (by simp) h
end Go.Proofs.YtmdkcggmnejkoaaDoor
