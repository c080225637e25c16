/- custodyref0's SameLongs, SameLegs, SameKeys, SameOp by contracts (printed by gen_same.py). -/
import Derived.Test.YtmdkcggmnejkoaaDoorCopy
import Derived.Test.YtmdkcggmnejkoaaDoorCheck
import Derived.Test.YtmdkcggmnejkoaaDoorLongsKit
import Derived.Test.YtmdkcggmnejkoaaDoorWEqStruct
import Derived.Deep.RegionHeld3
namespace Go.Proofs.YtmdkcggmnejkoaaDoor
set_option linter.unusedSimpArgs false
set_option linter.unusedVariables false
open Go.RowKit Go.Proofs.YtmdkcggmnejkoaaDoorW.PrintWords

theorem longs_at {w : World} {B : Nat} {A : Option Addr} {l : List Int} {k : Nat} (h : Reads w B 1 A l.length (intsC l)) (hk : k < l.length) :
    ∃ ad, A = some ad ∧ ad.block < B ∧ w.cell? (ad.add k) = some (.int .i64 l[k]) := by
  obtain ⟨ad, e, hb, h0, _⟩ := Reads.elem (enc := Int.cs) (fun _ => rfl) h hk
  exact ⟨ad, e, hb, by simpa using h0 _ rfl⟩
instance : DecidableEq Leg := fun a b =>
  decidable_of_iff (a.f = b.f ∧ a.t = b.t ∧ a.a = b.a ∧ a.q = b.q ∧ a.n = b.n) ⟨fun h => by cases a; cases b; simp_all, fun h => by subst h; exact ⟨rfl, rfl, rfl, rfl, rfl⟩⟩
instance : DecidableEq Key := fun a b =>
  decidable_of_iff (a.acc = b.acc ∧ a.ast = b.ast) ⟨fun h => by cases a; cases b; simp_all, fun h => by subst h; exact ⟨rfl, rfl⟩⟩
instance : DecidableEq Op := fun a b =>
  decidable_of_iff (a.code = b.code ∧ a.acc = b.acc ∧ a.ast = b.ast ∧ a.qty = b.qty ∧ a.name = b.name ∧ a.id = b.id ∧ a.legs = b.legs ∧ a.pairs = b.pairs) ⟨fun h => by cases a; cases b; simp_all, fun h => by subst h; exact ⟨rfl, rfl, rfl, rfl, rfl, rfl, rfl, rfl⟩⟩
theorem leg_beq (x y : Leg) : (x.f == y.f && (x.t == y.t && (x.a == y.a && (x.q == y.q && (x.n == y.n))))) = decide (x = y) := by
  cases x; cases y; simp only [Leg.mk.injEq]; simp only [Bool.decide_and]; rfl
theorem key_beq (x y : Key) : (x.acc == y.acc && (x.ast == y.ast)) = decide (x = y) := by
  cases x; cases y; simp only [Key.mk.injEq]; simp only [Bool.decide_and]; rfl
theorem eqLeg (d : Nat) (w : World) (x y : Leg) :
    (Op.equalIn (d + 2) 45 (.agg #[.int .i64 x.f, .int .i64 x.t, .int .i64 x.a, .int .i64 x.q, .int .i64 x.n]) (.agg #[.int .i64 y.f, .int .i64 y.t, .int .i64 y.a, .int .i64 y.q, .int .i64 y.n])).run Tryd.prog w = .ok (decide (x = y)) w := by
  rw [← leg_beq]
  refine eqA_of Tryd.underlying45 (by kernel_rfl) ?_
  refine eqf_cons (by rfl) (by go_simp; rfl) (by go_simp; rfl) (by go_simp) ?_
  refine eqf_cons (by rfl) (by go_simp; rfl) (by go_simp; rfl) (by go_simp) ?_
  refine eqf_cons (by rfl) (by go_simp; rfl) (by go_simp; rfl) (by go_simp) ?_
  refine eqf_cons (by rfl) (by go_simp; rfl) (by go_simp; rfl) (by go_simp) ?_
  exact eqf_last (by rfl) (by go_simp; rfl) (by go_simp; rfl) (by go_simp)
theorem eqKey (d : Nat) (w : World) (x y : Key) :
    (Op.equalIn (d + 2) 47 (.agg #[.int .i64 x.acc, .int .i64 x.ast]) (.agg #[.int .i64 y.acc, .int .i64 y.ast])).run Tryd.prog w = .ok (decide (x = y)) w := by
  rw [← key_beq]
  refine eqA_of Tryd.underlying47 (by kernel_rfl) ?_
  refine eqf_cons (by rfl) (by go_simp; rfl) (by go_simp; rfl) (by go_simp) ?_
  exact eqf_last (by rfl) (by go_simp; rfl) (by go_simp; rfl) (by go_simp)
attribute [local go_sem high] eqLeg eqKey

set_option maxRecDepth 100000 in
set_option maxHeartbeats 4000000 in
theorem sameLegs_calls (l m : List Leg) (A B : Option Addr) (c d : Nat) (w : World) (ha : Reads w w.heap.size 5 A l.length (legsC l)) (hb : Reads w w.heap.size 5 B m.length (legsC m)) (hlen : l.length ≤ 17592186044416) :
    Calls Tryd.prog 60 #[.slice A l.length c, .slice B m.length d] w fun e w' => e = .returned (.bool (decide (l = m))) ∧ Below w.heap.size w w' := by
  go_enter Tryd.func60, Tryd.ntmps60
  by_cases hn : l.length = m.length
  · rw [hn]
    go_wp2_with (fail)
    go_loopw [5] (fun i wr => ∃ k : Nat, k ≤ m.length ∧ i = .int .i64 k ∧ l.take k = m.take k ∧ Below w.heap.size w wr) (fun i _ => m.length - (intOf i).toNat)
    case atStart => exact ⟨0, Nat.zero_le _, rfl, by simp, Below.refl _ _⟩
    case round =>
      obtain ⟨k, hk, rfl, heq, hbel⟩ := hrel
      by_cases hlt : k < m.length
      · have hlt2 : k < l.length := by omega
        obtain ⟨ad, rfl, hadb, e0, e1, e2, e3, e4⟩ := legs_at (ha.below hbel) hlt2
        obtain ⟨bd, rfl, hbdb, o0, o1, o2, o3, o4⟩ := legs_at (hb.below hbel) hlt
        clear ha hb
        have hl' : (k : Int) < m.length := by omega
        have hs1 : l.take (k + 1) = l.take k ++ [l[k]] := by rw [List.take_succ_eq_append_getElem hlt2]
        have hs2 : m.take (k + 1) = m.take k ++ [m[k]] := by rw [List.take_succ_eq_append_getElem hlt]
        have hs3 : l = m → l[k] = m[k] := fun h => by subst h; rfl
        generalize hx : l[k] = x at e0 e1 e2 e3 e4 hs1 hs3
        generalize hy : m[k] = y at o0 o1 o2 o3 o4 hs2 hs3
        have HS1 := Lib.hid hs1
        have HS2 := Lib.hid hs2
        clear hx hy hs1 hs2
        by_cases hxy : x = y
        · subst hxy
          go_wp2_with (fail)
          go_region_held3 (fun w' => w'.cell? (ad.add (k * 5)) = some (.int .i64 x.f) ∧ w'.cell? ⟨(ad.add (k * 5)).block, (ad.add (k * 5)).off + 1, none⟩ = some (.int .i64 x.t) ∧ w'.cell? ⟨(ad.add (k * 5)).block, (ad.add (k * 5)).off + 2, none⟩ = some (.int .i64 x.a) ∧ w'.cell? ⟨(ad.add (k * 5)).block, (ad.add (k * 5)).off + 3, none⟩ = some (.int .i64 x.q) ∧ w'.cell? ⟨(ad.add (k * 5)).block, (ad.add (k * 5)).off + 4, none⟩ = some (.int .i64 x.n) ∧ w'.cell? (bd.add (k * 5)) = some (.int .i64 x.f) ∧ w'.cell? ⟨(bd.add (k * 5)).block, (bd.add (k * 5)).off + 1, none⟩ = some (.int .i64 x.t) ∧ w'.cell? ⟨(bd.add (k * 5)).block, (bd.add (k * 5)).off + 2, none⟩ = some (.int .i64 x.a) ∧ w'.cell? ⟨(bd.add (k * 5)).block, (bd.add (k * 5)).off + 3, none⟩ = some (.int .i64 x.q) ∧ w'.cell? ⟨(bd.add (k * 5)).block, (bd.add (k * 5)).off + 4, none⟩ = some (.int .i64 x.n))
            (first | go_keep | fail)
            (fail)
          go_wp2
          go_roundw
          case rel => exact ⟨k + 1, by omega, by go_num, by rw [HS1.out, HS2.out, heq], hbel.drew⟩
          case measure => simp [intOf]; omega
        · have hd : decide (x = y) = false := decide_eq_false hxy
          skip
          go_wp2_with (fail)
          go_region_held3 (fun w' => w'.cell? (ad.add (k * 5)) = some (.int .i64 x.f) ∧ w'.cell? ⟨(ad.add (k * 5)).block, (ad.add (k * 5)).off + 1, none⟩ = some (.int .i64 x.t) ∧ w'.cell? ⟨(ad.add (k * 5)).block, (ad.add (k * 5)).off + 2, none⟩ = some (.int .i64 x.a) ∧ w'.cell? ⟨(ad.add (k * 5)).block, (ad.add (k * 5)).off + 3, none⟩ = some (.int .i64 x.q) ∧ w'.cell? ⟨(ad.add (k * 5)).block, (ad.add (k * 5)).off + 4, none⟩ = some (.int .i64 x.n) ∧ w'.cell? (bd.add (k * 5)) = some (.int .i64 y.f) ∧ w'.cell? ⟨(bd.add (k * 5)).block, (bd.add (k * 5)).off + 1, none⟩ = some (.int .i64 y.t) ∧ w'.cell? ⟨(bd.add (k * 5)).block, (bd.add (k * 5)).off + 2, none⟩ = some (.int .i64 y.a) ∧ w'.cell? ⟨(bd.add (k * 5)).block, (bd.add (k * 5)).off + 3, none⟩ = some (.int .i64 y.q) ∧ w'.cell? ⟨(bd.add (k * 5)).block, (bd.add (k * 5)).off + 4, none⟩ = some (.int .i64 y.n))
            (first | go_keep | fail)
            (fail)
          go_wp2
          go_ret
          exact ⟨by rw [decide_eq_false (fun h => hxy (hs3 h))]; rfl, hbel.drew⟩
      · obtain rfl : k = m.length := by omega
        have hq : l = m := by rw [← hn, List.take_length, hn, List.take_length] at heq; exact heq
        go_wp2
        go_ret
        exact ⟨by rw [decide_eq_true hq]; rfl, hbel⟩
  · have hn' : ((l.length : Int) == (m.length : Int)) = false := beq_eq_false_iff_ne.2 (by omega)
    have hn2 : ((l.length : Int) != (m.length : Int)) = true := by simp [bne, hn']
    go_wp2
    go_ret
    exact ⟨by rw [decide_eq_false (fun h => hn (by rw [h]))]; rfl, Below.refl _ _⟩

set_option maxRecDepth 100000 in
set_option maxHeartbeats 4000000 in
theorem sameKeys_calls (l m : List Key) (A B : Option Addr) (c d : Nat) (w : World) (ha : Reads w w.heap.size 2 A l.length (keysC l)) (hb : Reads w w.heap.size 2 B m.length (keysC m)) (hlen : l.length ≤ 17592186044416) :
    Calls Tryd.prog 61 #[.slice A l.length c, .slice B m.length d] w fun e w' => e = .returned (.bool (decide (l = m))) ∧ Below w.heap.size w w' := by
  go_enter Tryd.func61, Tryd.ntmps61
  by_cases hn : l.length = m.length
  · rw [hn]
    go_wp2_with (fail)
    go_loopw [5] (fun i wr => ∃ k : Nat, k ≤ m.length ∧ i = .int .i64 k ∧ l.take k = m.take k ∧ Below w.heap.size w wr) (fun i _ => m.length - (intOf i).toNat)
    case atStart => exact ⟨0, Nat.zero_le _, rfl, by simp, Below.refl _ _⟩
    case round =>
      obtain ⟨k, hk, rfl, heq, hbel⟩ := hrel
      by_cases hlt : k < m.length
      · have hlt2 : k < l.length := by omega
        obtain ⟨ad, rfl, hadb, e0, e1⟩ := keys_at (ha.below hbel) hlt2
        obtain ⟨bd, rfl, hbdb, o0, o1⟩ := keys_at (hb.below hbel) hlt
        clear ha hb
        have hl' : (k : Int) < m.length := by omega
        have hs1 : l.take (k + 1) = l.take k ++ [l[k]] := by rw [List.take_succ_eq_append_getElem hlt2]
        have hs2 : m.take (k + 1) = m.take k ++ [m[k]] := by rw [List.take_succ_eq_append_getElem hlt]
        have hs3 : l = m → l[k] = m[k] := fun h => by subst h; rfl
        generalize hx : l[k] = x at e0 e1 hs1 hs3
        generalize hy : m[k] = y at o0 o1 hs2 hs3
        have HS1 := Lib.hid hs1
        have HS2 := Lib.hid hs2
        clear hx hy hs1 hs2
        by_cases hxy : x = y
        · subst hxy
          go_wp2_with (fail)
          go_region_held3 (fun w' => w'.cell? (ad.add (k * 2)) = some (.int .i64 x.acc) ∧ w'.cell? ⟨(ad.add (k * 2)).block, (ad.add (k * 2)).off + 1, none⟩ = some (.int .i64 x.ast) ∧ w'.cell? (bd.add (k * 2)) = some (.int .i64 x.acc) ∧ w'.cell? ⟨(bd.add (k * 2)).block, (bd.add (k * 2)).off + 1, none⟩ = some (.int .i64 x.ast))
            (first | go_keep | fail)
            (fail)
          go_wp2
          go_roundw
          case rel => exact ⟨k + 1, by omega, by go_num, by rw [HS1.out, HS2.out, heq], hbel.drew⟩
          case measure => simp [intOf]; omega
        · have hd : decide (x = y) = false := decide_eq_false hxy
          skip
          go_wp2_with (fail)
          go_region_held3 (fun w' => w'.cell? (ad.add (k * 2)) = some (.int .i64 x.acc) ∧ w'.cell? ⟨(ad.add (k * 2)).block, (ad.add (k * 2)).off + 1, none⟩ = some (.int .i64 x.ast) ∧ w'.cell? (bd.add (k * 2)) = some (.int .i64 y.acc) ∧ w'.cell? ⟨(bd.add (k * 2)).block, (bd.add (k * 2)).off + 1, none⟩ = some (.int .i64 y.ast))
            (first | go_keep | fail)
            (fail)
          go_wp2
          go_ret
          exact ⟨by rw [decide_eq_false (fun h => hxy (hs3 h))]; rfl, hbel.drew⟩
      · obtain rfl : k = m.length := by omega
        have hq : l = m := by rw [← hn, List.take_length, hn, List.take_length] at heq; exact heq
        go_wp2
        go_ret
        exact ⟨by rw [decide_eq_true hq]; rfl, hbel⟩
  · have hn' : ((l.length : Int) == (m.length : Int)) = false := beq_eq_false_iff_ne.2 (by omega)
    have hn2 : ((l.length : Int) != (m.length : Int)) = true := by simp [bne, hn']
    go_wp2
    go_ret
    exact ⟨by rw [decide_eq_false (fun h => hn (by rw [h]))]; rfl, Below.refl _ _⟩

set_option maxRecDepth 100000 in
set_option maxHeartbeats 4000000 in
theorem sameLongs_calls (l m : List Int) (A B : Option Addr) (c d : Nat) (w : World) (ha : Reads w w.heap.size 1 A l.length (intsC l)) (hb : Reads w w.heap.size 1 B m.length (intsC m)) (hlen : l.length ≤ 17592186044416) :
    Calls Tryd.prog 18 #[.slice A l.length c, .slice B m.length d] w fun e w' => e = .returned (.bool (decide (l = m))) ∧ Below w.heap.size w w' := by
  go_enter Tryd.func18, Tryd.ntmps18
  by_cases hn : l.length = m.length
  · rw [hn]
    go_wp2_with (fail)
    go_loopw [5] (fun i wr => ∃ k : Nat, k ≤ m.length ∧ i = .int .i64 k ∧ l.take k = m.take k ∧ Below w.heap.size w wr) (fun i _ => m.length - (intOf i).toNat)
    case atStart => exact ⟨0, Nat.zero_le _, rfl, by simp, Below.refl _ _⟩
    case round =>
      obtain ⟨k, hk, rfl, heq, hbel⟩ := hrel
      by_cases hlt : k < m.length
      · have hlt2 : k < l.length := by omega
        obtain ⟨ad, rfl, hadb, e0⟩ := longs_at (ha.below hbel) hlt2
        obtain ⟨bd, rfl, hbdb, o0⟩ := longs_at (hb.below hbel) hlt
        clear ha hb
        have hl' : (k : Int) < m.length := by omega
        have hs1 : l.take (k + 1) = l.take k ++ [l[k]] := by rw [List.take_succ_eq_append_getElem hlt2]
        have hs2 : m.take (k + 1) = m.take k ++ [m[k]] := by rw [List.take_succ_eq_append_getElem hlt]
        have hs3 : l = m → l[k] = m[k] := fun h => by subst h; rfl
        generalize hx : l[k] = x at e0 hs1 hs3
        generalize hy : m[k] = y at o0 hs2 hs3
        have HS1 := Lib.hid hs1
        have HS2 := Lib.hid hs2
        clear hx hy hs1 hs2
        by_cases hxy : x = y
        · subst hxy
          go_wp2_with (fail)
          go_region_held3 (fun w' => w'.cell? (ad.add k) = some (.int .i64 x) ∧ w'.cell? (bd.add k) = some (.int .i64 x))
            (first | go_keep | fail)
            (fail)
          go_wp2
          go_roundw
          case rel => exact ⟨k + 1, by omega, by go_num, by rw [HS1.out, HS2.out, heq], hbel.drew⟩
          case measure => simp [intOf]; omega
        · have hd : decide (x = y) = false := decide_eq_false hxy
          have hd2 : (x == y) = false := beq_eq_false_iff_ne.2 hxy
          go_wp2_with (fail)
          go_region_held3 (fun w' => w'.cell? (ad.add k) = some (.int .i64 x) ∧ w'.cell? (bd.add k) = some (.int .i64 y))
            (first | go_keep | fail)
            (fail)
          go_wp2
          go_ret
          exact ⟨by rw [decide_eq_false (fun h => hxy (hs3 h))]; rfl, hbel.drew⟩
      · obtain rfl : k = m.length := by omega
        have hq : l = m := by rw [← hn, List.take_length, hn, List.take_length] at heq; exact heq
        go_wp2
        go_ret
        exact ⟨by rw [decide_eq_true hq]; rfl, hbel⟩
  · have hn' : ((l.length : Int) == (m.length : Int)) = false := beq_eq_false_iff_ne.2 (by omega)
    have hn2 : ((l.length : Int) != (m.length : Int)) = true := by simp [bne, hn']
    go_wp2
    go_ret
    exact ⟨by rw [decide_eq_false (fun h => hn (by rw [h]))]; rfl, Below.refl _ _⟩

set_option maxRecDepth 100000 in
set_option maxHeartbeats 4000000 in
theorem sameOp_calls (x y : Op) (LA PA LB PB : Option Addr) (lc pc ld pd : Nat) (w : World) (hla : Reads w w.heap.size 5 LA x.legs.length (legsC x.legs)) (hpa : Reads w w.heap.size 2 PA x.pairs.length (keysC x.pairs)) (hlb : Reads w w.heap.size 5 LB y.legs.length (legsC y.legs)) (hpb : Reads w w.heap.size 2 PB y.pairs.length (keysC y.pairs)) (hl : x.legs.length ≤ 17592186044416) (hp : x.pairs.length ≤ 17592186044416) :
    Calls Tryd.prog 27 #[.agg #[.int .i64 x.code, .int .i64 x.acc, .int .i64 x.ast, .int .i64 x.qty, .int .i64 x.name, .int .i64 x.id, .slice LA x.legs.length lc, .slice PA x.pairs.length pc], .agg #[.int .i64 y.code, .int .i64 y.acc, .int .i64 y.ast, .int .i64 y.qty, .int .i64 y.name, .int .i64 y.id, .slice LB y.legs.length ld, .slice PB y.pairs.length pd]] w fun e w' => e = .returned (.bool (decide (x = y))) ∧ Below w.heap.size w w' := by
  obtain ⟨x0, x1, x2, x3, x4, x5, xl, xp⟩ := x
  obtain ⟨y0, y1, y2, y3, y4, y5, yl, yp⟩ := y
  dsimp only at hla hpa hlb hpb hl hp ⊢
  obtain ⟨g, hg⟩ : ∃ g, w.heap.size = g := ⟨_, rfl⟩
  have hd : decide ((⟨x0, x1, x2, x3, x4, x5, xl, xp⟩ : Op) = ⟨y0, y1, y2, y3, y4, y5, yl, yp⟩) = decide (x0 = y0 ∧ x1 = y1 ∧ x2 = y2 ∧ x3 = y3 ∧ x4 = y4 ∧ x5 = y5 ∧ xl = yl ∧ xp = yp) := by simp only [Op.mk.injEq]
  rw [hd]
  clear hd
  obtain ⟨W2, hW2⟩ : ∃ W2, (w.alloc (.cells #[.int .i64 x0, .int .i64 x1, .int .i64 x2, .int .i64 x3, .int .i64 x4, .int .i64 x5, .slice LA xl.length lc, .slice PA xp.length pc] 33)).alloc (.cells #[.int .i64 y0, .int .i64 y1, .int .i64 y2, .int .i64 y3, .int .i64 y4, .int .i64 y5, .slice LB yl.length ld, .slice PB yp.length pd] 33) = W2 := ⟨_, rfl⟩
  have hb : Below w.heap.size w W2 := hW2 ▸ ((Below.refl _ _).alloc (Nat.le_refl _) _).alloc (by simp) _
  have b1 : Blk W2 g 33 #[.int .i64 x0, .int .i64 x1, .int .i64 x2, .int .i64 x3, .int .i64 x4, .int .i64 x5, .slice LA xl.length lc, .slice PA xp.length pc] := by rw [← hW2, ← hg]; exact (Blk.new _ _ _).alloc _
  have b2 : Blk W2 (g + 1) 33 #[.int .i64 y0, .int .i64 y1, .int .i64 y2, .int .i64 y3, .int .i64 y4, .int .i64 y5, .slice LB yl.length ld, .slice PB yp.length pd] := by rw [← hW2, ← hg]; have h := Blk.new (w.alloc (.cells #[.int .i64 x0, .int .i64 x1, .int .i64 x2, .int .i64 x3, .int .i64 x4, .int .i64 x5, .slice LA xl.length lc, .slice PA xp.length pc] 33)) 33 #[.int .i64 y0, .int .i64 y1, .int .i64 y2, .int .i64 y3, .int .i64 y4, .int .i64 y5, .slice LB yl.length ld, .slice PB yp.length pd]; simpa using h
  have k0 : W2.cell? ⟨g, 0, none⟩ = some (.int .i64 x0) := b1.cell 0
  have m0 : W2.cell? ⟨g + 1, 0, none⟩ = some (.int .i64 y0) := b2.cell 0
  have k1 : W2.cell? ⟨g, 1, none⟩ = some (.int .i64 x1) := b1.cell 1
  have m1 : W2.cell? ⟨g + 1, 1, none⟩ = some (.int .i64 y1) := b2.cell 1
  have k2 : W2.cell? ⟨g, 2, none⟩ = some (.int .i64 x2) := b1.cell 2
  have m2 : W2.cell? ⟨g + 1, 2, none⟩ = some (.int .i64 y2) := b2.cell 2
  have k3 : W2.cell? ⟨g, 3, none⟩ = some (.int .i64 x3) := b1.cell 3
  have m3 : W2.cell? ⟨g + 1, 3, none⟩ = some (.int .i64 y3) := b2.cell 3
  have k4 : W2.cell? ⟨g, 4, none⟩ = some (.int .i64 x4) := b1.cell 4
  have m4 : W2.cell? ⟨g + 1, 4, none⟩ = some (.int .i64 y4) := b2.cell 4
  have k5 : W2.cell? ⟨g, 5, none⟩ = some (.int .i64 x5) := b1.cell 5
  have m5 : W2.cell? ⟨g + 1, 5, none⟩ = some (.int .i64 y5) := b2.cell 5
  have k6 : W2.cell? ⟨g, 6, none⟩ = some (.slice LA xl.length lc) := b1.cell 6
  have m6 : W2.cell? ⟨g + 1, 6, none⟩ = some (.slice LB yl.length ld) := b2.cell 6
  have k7 : W2.cell? ⟨g, 7, none⟩ = some (.slice PA xp.length pc) := b1.cell 7
  have m7 : W2.cell? ⟨g + 1, 7, none⟩ = some (.slice PB yp.length pd) := b2.cell 7
  have s2 := hb.size
  have hlb2 : Reads W2 W2.heap.size 5 LB yl.length (legsC yl) := (hlb.below hb).more s2
  have hla2 : Reads W2 W2.heap.size 5 LA xl.length (legsC xl) := (hla.below hb).more s2
  have hpb2 : Reads W2 W2.heap.size 2 PB yp.length (keysC yp) := (hpb.below hb).more s2
  have hpa2 : Reads W2 W2.heap.size 2 PA xp.length (keysC xp) := (hpa.below hb).more s2
  have H1 := Lib.hid b1
  have H2 := Lib.hid b2
  have S2 := Lib.hid s2
  clear b1 b2 hla hpa hlb hpb s2
  go_enter Tryd.func27, Tryd.ntmps27
  by_cases h0 : x0 = y0
  case neg =>
    have hn : (x0 != y0) = true := by simp [bne, h0]
    have hn2 : (x0 == y0) = false := beq_eq_false_iff_ne.2 h0
    go_wp2
    go_ret
    exact ⟨by first | rfl | (rw [decide_eq_false (fun h => h0 h.1)]; rfl), by first | exact hb | exact hg ▸ hb⟩
  subst h0
  by_cases h1 : x1 = y1
  case neg =>
    have hn : (x1 != y1) = true := by simp [bne, h1]
    have hn2 : (x1 == y1) = false := beq_eq_false_iff_ne.2 h1
    go_wp2
    go_ret
    exact ⟨by first | rfl | (rw [decide_eq_false (fun h => h1 h.2.1)]; rfl), by first | exact hb | exact hg ▸ hb⟩
  subst h1
  by_cases h2 : x2 = y2
  case neg =>
    have hn : (x2 != y2) = true := by simp [bne, h2]
    have hn2 : (x2 == y2) = false := beq_eq_false_iff_ne.2 h2
    go_wp2
    go_ret
    exact ⟨by first | rfl | (rw [decide_eq_false (fun h => h2 h.2.2.1)]; rfl), by first | exact hb | exact hg ▸ hb⟩
  subst h2
  by_cases h3 : x3 = y3
  case neg =>
    have hn : (x3 != y3) = true := by simp [bne, h3]
    have hn2 : (x3 == y3) = false := beq_eq_false_iff_ne.2 h3
    go_wp2
    go_ret
    exact ⟨by first | rfl | (rw [decide_eq_false (fun h => h3 h.2.2.2.1)]; rfl), by first | exact hb | exact hg ▸ hb⟩
  subst h3
  by_cases h4 : x4 = y4
  case neg =>
    have hn : (x4 != y4) = true := by simp [bne, h4]
    have hn2 : (x4 == y4) = false := beq_eq_false_iff_ne.2 h4
    go_wp2
    go_ret
    exact ⟨by first | rfl | (rw [decide_eq_false (fun h => h4 h.2.2.2.2.1)]; rfl), by first | exact hb | exact hg ▸ hb⟩
  subst h4
  by_cases h5 : x5 = y5
  case neg =>
    have hn : (x5 != y5) = true := by simp [bne, h5]
    have hn2 : (x5 == y5) = false := beq_eq_false_iff_ne.2 h5
    go_wp2
    go_ret
    exact ⟨by first | rfl | (rw [decide_eq_false (fun h => h5 h.2.2.2.2.2.1)]; rfl), by first | exact hb | exact hg ▸ hb⟩
  subst h5
  have hd : decide (x0 = x0 ∧ x1 = x1 ∧ x2 = x2 ∧ x3 = x3 ∧ x4 = x4 ∧ x5 = x5 ∧ xl = yl ∧ xp = yp) = decide (xl = yl ∧ xp = yp) := by simp
  rw [hd]
  clear hd
  by_cases hL : xl = yl
  · subst hL
    have hd : decide (xl = xl ∧ xp = yp) = decide (xp = yp) := by simp
    rw [hd]
    clear hd
    go_wp2_with (first
      | (go_at_call 60; refine (sameLegs_calls xl xl LA LB lc ld W2 hla2 hlb2 hl).mono ?_; rintro e w3 ⟨rfl, hb3⟩; have q7 := cell_below hb3 k7; have r7 := cell_below hb3 m7)
      | (go_at_call 61; refine (sameKeys_calls xp yp PA PB pc pd _ ((hpa2.below hb3).more hb3.size) ((hpb2.below hb3).more hb3.size) hp).mono ?_; rintro e w4 ⟨rfl, hb4⟩))
    go_ret
    exact ⟨rfl, by first | exact (hb.trans (hb3.mono S2.out)).trans (hb4.mono (Nat.le_trans S2.out hb3.size)) | exact hg ▸ ((hb.trans (hb3.mono S2.out)).trans (hb4.mono (Nat.le_trans S2.out hb3.size)))⟩
  · go_wp2_with (first
      | (go_at_call 60; refine (sameLegs_calls xl yl LA LB lc ld W2 hla2 hlb2 hl).mono ?_; rintro e w3 ⟨rfl, hb3⟩))
    go_ret
    exact ⟨by first | rfl | (rw [decide_eq_false (fun h => hL h.1)]; rfl), by first | exact hb.trans (hb3.mono S2.out) | exact hg ▸ (hb.trans (hb3.mono S2.out))⟩
end Go.Proofs.YtmdkcggmnejkoaaDoor
