/- guard.Decode, by contracts. -/
import Derived.Test.YtmdkcggmnejkoaaDoorDecode3
import Derived.MapKept
import Derived.WideMake
namespace Go.Proofs.YtmdkcggmnejkoaaDoor
set_option linter.unusedSimpArgs false
set_option linter.unusedVariables false
open Go.RowKit

theorem alloc_again (w : World) (o o' : Obj) : { w.alloc o with heap := (w.alloc o).heap.setIfInBounds w.heap.size o' } = w.alloc o' := by
  show ({ w with heap := (w.heap.push o).setIfInBounds w.heap.size o' } : World) = { w with heap := w.heap.push o' }
  congr 1
  apply Array.ext_getElem?
  intro i
  simp only [Array.getElem?_setIfInBounds, Array.getElem?_push, Array.size_push]
  by_cases h : w.heap.size = i
  · simp [h]
  · simp [h, Ne.symm h]

/-- A number that the map (made by the call) has not yet. -/
theorem run_insert {P : Program} {t k e : TypeId} (ht : P.underlying t = some (.map k e)) (hk : P.underlying k = some (.int .i64)) (w : World) (es : Array MapEntry) (c : Nat) (n : Int) (v : Value)
    (hnew : Instr.findNow (.int .i64) (.int .i64 n) es.toList 0 = some none) :
    (Instr.mapUpdate t (.map (some w.heap.size)) (.int .i64 n) v).run P (w.alloc (.map es c)) = .ok () (w.alloc (.map (es.push { key := .int .i64 n, val := v, born := c }) (c + 1))) := by
  have hb : (w.alloc (.map es c)).heap[w.heap.size]? = some (.map es c) := heap_alloc_new w _
  have hs := MapKept.run_setObj_map (P := P) (.map (es.push { key := .int .i64 n, val := v, born := c }) (c + 1)) hb
  rw [alloc_again] at hs
  have hc : (Instr.checkKey false 10000 k (.int .i64 n)).run P (w.alloc (.map es c)) = .ok () (w.alloc (.map es c)) := MapKept.run_checkKey (k := .int .i64 n) hk (by simp [MapKept.IsKey]) false 9999
  simp [Instr.mapUpdate, run_underlying ht, MapKept.run_getObj_map hb, hc, Instr.findKey, run_underlying hk, hnew, hs, Result.andThen]

def fn_ (n : Nat) : Value := .func (.func n) #[] #[]
def ent (n : Int) (v : Value) (b : Nat) : MapEntry := { key := .int .i64 n, val := v, born := b }
def readersL : List MapEntry := [ent 1 (fn_ 73) 0, ent 2 (fn_ 73) 1, ent 3 (fn_ 74) 2, ent 4 (fn_ 74) 3,
  ent 5 (fn_ 75) 4, ent 6 (fn_ 76) 5, ent 7 (fn_ 76) 6, ent 8 (fn_ 77) 7]

set_option maxRecDepth 100000 in
set_option maxHeartbeats 2000000 in
theorem readers_calls (w : World) : Calls Tryd.prog 59 #[] w fun e w' => e = .returned (.map (some w.heap.size)) ∧ w' = w.alloc (.map readersL.toArray 8) := by
  go_enter Tryd.func59, Tryd.ntmps59
  go_wp2
  rw [run_makeMap_plain]
  go_wp2
  rw [run_insert (t := 93) (k := 2) (e := 92) (by kernel_rfl) (by kernel_rfl) w _ _ 1 _ (by rfl)]
  go_wp2
  rw [run_insert (t := 93) (k := 2) (e := 92) (by kernel_rfl) (by kernel_rfl) w _ _ 2 _ (by rfl)]
  go_wp2
  rw [run_insert (t := 93) (k := 2) (e := 92) (by kernel_rfl) (by kernel_rfl) w _ _ 3 _ (by rfl)]
  go_wp2
  rw [run_insert (t := 93) (k := 2) (e := 92) (by kernel_rfl) (by kernel_rfl) w _ _ 4 _ (by rfl)]
  go_wp2
  rw [run_insert (t := 93) (k := 2) (e := 92) (by kernel_rfl) (by kernel_rfl) w _ _ 5 _ (by rfl)]
  go_wp2
  rw [run_insert (t := 93) (k := 2) (e := 92) (by kernel_rfl) (by kernel_rfl) w _ _ 6 _ (by rfl)]
  go_wp2
  rw [run_insert (t := 93) (k := 2) (e := 92) (by kernel_rfl) (by kernel_rfl) w _ _ 7 _ (by rfl)]
  go_wp2
  rw [run_insert (t := 93) (k := 2) (e := 92) (by kernel_rfl) (by kernel_rfl) w _ _ 8 _ (by rfl)]
  go_wp2
  go_ret
  exact ⟨rfl, rfl⟩

theorem legs_nil (gr go B : Nat) (c0 a b q n i : Int) (L P : Value) (w : World) (h : RowAt w gr B []) (hg : Blk w go 33 (opCs c0 a b q n i L P)) (hB2 : B ≤ go) (hne : go ≠ gr) :
    Calls Tryd.prog 75 #[.pointer (some ⟨gr, 0, none⟩), .pointer (some ⟨go, 0, none⟩)] w (FailTo w gr go) := by
  go_enter Tryd.func75, Tryd.ntmps75
  go_wp2_with (go_at_call 76; refine (id_nil gr go B c0 a b q n i L P _ h hg hB2 hne).mono ?_; rintro e w1 ⟨rfl, ht⟩)
  go_ret
  exact ⟨rfl, ht⟩

/-! ### What the readers read -/
structure OpM where
  c : Int
  a : Int
  b : Int
  q : Int
  n : Int
  i : Int
  ls : List Leg
  ks : List Key
def OpM.cs (o : OpM) (L P : Value) : Array Value := opCs o.c o.a o.b o.q o.n o.i L P
def OpM.zero : OpM := ⟨0, 0, 0, 0, 0, 0, [], []⟩
def rdHeld (c : Int) : List Int → Option (OpM × List Int)
  | x :: y :: z :: r => some (⟨c, x, y, z, 0, 0, [], []⟩, r)
  | _ => none
def rdMarked (c : Int) : List Int → Option (OpM × List Int)
  | x :: y :: z :: m :: r => some (⟨c, x, y, z, m, 0, [], []⟩, r)
  | _ => none
def rdId (c : Int) : List Int → Option (OpM × List Int)
  | x :: r => some (⟨c, 0, 0, 0, 0, x, [], []⟩, r)
  | [] => none
def rdLegs (c : Int) : List Int → Option (OpM × List Int)
  | x :: r => (legs5 r).map fun ls => (⟨c, 0, 0, 0, 0, x, ls, []⟩, [])
  | [] => none
def rdPairs (c : Int) (r : List Int) : Option (OpM × List Int) := (keys2 r).map fun ks => (⟨c, 0, 0, 0, 0, 0, [], ks⟩, [])

abbrev nilS : Value := .slice none 0 0
def ReadOk (W : World) (gr go B : Nat) (o : OpM) (rem : List Int) (e : Ending) (w' : World) : Prop :=
  e = .returned (.bool true) ∧ RowAt w' gr B rem ∧ Two W w' gr go ∧ ∃ L P, w'.ownsRow W.heap.size 45 5 L o.ls.length (legsC o.ls) ∧ w'.ownsRow W.heap.size 47 2 P o.ks.length (keysC o.ks) ∧ Blk w' go 33 (o.cs L P)
def ReadTo (W : World) (gr go B : Nat) (res : Option (OpM × List Int)) (e : Ending) (w' : World) : Prop :=
  match res with
  | some (o, rem) => ReadOk W gr go B o rem e w'
  | none => FailTo W gr go e w'

section
variable (gr go B : Nat) (c : Int) (r : List Int) (W : World) (h : RowAt W gr B r) (hg : Blk W go 33 (opCs c 0 0 0 0 0 nilS nilS)) (hB : B ≤ gr) (hB2 : B ≤ go) (hne : go ≠ gr) (hlen : r.length ≤ 17592186044416)
include h hg hB hB2 hne
theorem rd_held : Calls Tryd.prog 73 #[.pointer (some ⟨gr, 0, none⟩), .pointer (some ⟨go, 0, none⟩)] W (ReadTo W gr go B (rdHeld c r)) := by
  match r, h with
  | [], h => exact held_fail gr go B c 0 0 0 0 0 _ _ _ W h (by simp) hg hB hB2 hne
  | [_], h => exact held_fail gr go B c 0 0 0 0 0 _ _ _ W h (by simp) hg hB hB2 hne
  | [_, _], h => exact held_fail gr go B c 0 0 0 0 0 _ _ _ W h (by simp) hg hB hB2 hne
  | x :: y :: z :: r, h =>
    refine (held_ok gr go B c 0 0 0 0 0 x y z _ _ r W h hg hB hB2 hne).mono ?_
    rintro e w' ⟨rfl, hr, hb, ht, hs⟩
    exact ⟨rfl, hr, ht, nilS, nilS, World.ownsRow_nil _ _ _ _, World.ownsRow_nil _ _ _ _, hb⟩
theorem rd_marked : Calls Tryd.prog 74 #[.pointer (some ⟨gr, 0, none⟩), .pointer (some ⟨go, 0, none⟩)] W (ReadTo W gr go B (rdMarked c r)) := by
  match r, h with
  | [], h => exact marked_fail gr go B c 0 0 0 0 0 _ _ _ W h (by simp) hg hB hB2 hne
  | [_], h => exact marked_fail gr go B c 0 0 0 0 0 _ _ _ W h (by simp) hg hB hB2 hne
  | [_, _], h => exact marked_fail gr go B c 0 0 0 0 0 _ _ _ W h (by simp) hg hB hB2 hne
  | [_, _, _], h => exact marked_fail gr go B c 0 0 0 0 0 _ _ _ W h (by simp) hg hB hB2 hne
  | x :: y :: z :: m :: r, h =>
    refine (marked_ok gr go B c 0 0 0 0 0 x y z m _ _ r W h hg hB hB2 hne).mono ?_
    rintro e w' ⟨rfl, hr, hb, ht, hs⟩
    exact ⟨rfl, hr, ht, nilS, nilS, World.ownsRow_nil _ _ _ _, World.ownsRow_nil _ _ _ _, hb⟩
theorem rd_id : Calls Tryd.prog 76 #[.pointer (some ⟨gr, 0, none⟩), .pointer (some ⟨go, 0, none⟩)] W (ReadTo W gr go B (rdId c r)) := by
  match r, h with
  | [], h => exact id_nil gr go B c 0 0 0 0 0 _ _ W h hg hB2 hne
  | x :: r, h =>
    refine (id_cons gr go B c 0 0 0 0 0 x _ _ r W h hg hB hB2 hne).mono ?_
    rintro e w' ⟨rfl, hr, hb, ht, hs⟩
    exact ⟨rfl, hr, ht, nilS, nilS, World.ownsRow_nil _ _ _ _, World.ownsRow_nil _ _ _ _, hb⟩
include hlen
theorem rd_pairs : Calls Tryd.prog 77 #[.pointer (some ⟨gr, 0, none⟩), .pointer (some ⟨go, 0, none⟩)] W (ReadTo W gr go B (rdPairs c r)) := by
  refine (pairs_calls gr go B c 0 0 0 0 0 _ r W h hg hB hB2 hne hlen).mono ?_
  intro e w' hp
  unfold PairsPost at hp
  unfold ReadTo rdPairs
  split at hp
  · rename_i ks hk
    rw [hk]
    obtain ⟨rfl, hr, ht, v, hv, hb⟩ := hp
    exact ⟨rfl, hr, ht, nilS, v, World.ownsRow_nil _ _ _ _, hv, hb⟩
  · rename_i hk
    rw [hk]
    exact hp
theorem rd_legs : Calls Tryd.prog 75 #[.pointer (some ⟨gr, 0, none⟩), .pointer (some ⟨go, 0, none⟩)] W (ReadTo W gr go B (rdLegs c r)) := by
  match r, h, hlen with
  | [], h, _ => exact legs_nil gr go B c 0 0 0 0 0 _ _ W h hg hB2 hne
  | x :: r, h, hlen =>
    refine (legs_calls gr go B c 0 0 0 0 0 x _ r W h hg hB hB2 hne (by simp only [List.length_cons] at hlen; omega)).mono ?_
    intro e w' hp
    unfold LegsPost at hp
    unfold ReadTo rdLegs
    split at hp
    · rename_i ks hk
      simp only [hk, Option.map_some]
      obtain ⟨rfl, hr, ht, v, hv, hb⟩ := hp
      exact ⟨rfl, hr, ht, v, nilS, hv, World.ownsRow_nil _ _ _ _, hb⟩
    · rename_i hk
      simp only [hk, Option.map_none]
      exact hp
end
end Go.Proofs.YtmdkcggmnejkoaaDoor
