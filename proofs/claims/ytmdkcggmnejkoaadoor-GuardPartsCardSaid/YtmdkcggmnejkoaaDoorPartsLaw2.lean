/- Law GuardParts. -/
import Derived.Test.YtmdkcggmnejkoaaDoorWorks
import Derived.Test.YtmdkcggmnejkoaaDoorCheckLaw
import Derived.Deep.DeepCutAuto
import Derived.Deep.RegionHeld3
import Derived.Deep.CutBlock
namespace Go.Proofs.YtmdkcggmnejkoaaDoor
open Go.RowKit
set_option linter.unusedSimpArgs false
set_option linter.unusedVariables false

theorem Reads.first {w : World} {B s n m : Nat} {A : Option Addr} {xs : List Value} (h : Reads w B s A n xs) (hm : m ≤ n) : Reads w B s A m (xs.take (m * s)) := by
  refine ⟨by rw [List.length_take, h.1]; exact Nat.min_eq_left (Nat.mul_le_mul_right _ hm), fun h0 => ?_⟩
  obtain ⟨ad, e, hb, hc⟩ := h.2 (by omega)
  refine ⟨ad, e, hb, fun j u hu => hc j u ?_⟩
  rw [List.getElem?_take] at hu
  split at hu
  · exact hu
  · cases hu

theorem reads_leg {w : World} {B : Nat} {ad : Addr} {x : Leg} (hb : ad.block < B) (e0 : w.cell? ad = some (.int .i64 x.f)) (e1 : w.cell? ⟨ad.block, ad.off + 1, none⟩ = some (.int .i64 x.t)) (e2 : w.cell? ⟨ad.block, ad.off + 2, none⟩ = some (.int .i64 x.a))
    (e3 : w.cell? ⟨ad.block, ad.off + 3, none⟩ = some (.int .i64 x.q)) (e4 : w.cell? ⟨ad.block, ad.off + 4, none⟩ = some (.int .i64 x.n)) : Reads w B 5 (some ad) 1 (legsC [x]) := by
  refine ⟨rfl, fun _ => ⟨ad, rfl, hb, fun j u hu => ?_⟩⟩
  match j, hu with
  | 0, hu => cases hu; simpa [Addr.add] using e0
  | 1, hu => cases hu; simpa [Addr.add] using e1
  | 2, hu => cases hu; simpa [Addr.add] using e2
  | 3, hu => cases hu; simpa [Addr.add] using e3
  | 4, hu => cases hu; simpa [Addr.add] using e4
  | _ + 5, hu => simp [legsC, Leg.cs] at hu
theorem reads_key {w : World} {B : Nat} {ad : Addr} {x : Key} (hb : ad.block < B) (e0 : w.cell? ad = some (.int .i64 x.acc)) (e1 : w.cell? ⟨ad.block, ad.off + 1, none⟩ = some (.int .i64 x.ast)) : Reads w B 2 (some ad) 1 (keysC [x]) := by
  refine ⟨rfl, fun _ => ⟨ad, rfl, hb, fun j u hu => ?_⟩⟩
  match j, hu with
  | 0, hu => cases hu; simpa [Addr.add] using e0
  | 1, hu => cases hu; simpa [Addr.add] using e1
  | _ + 2, hu => simp [keysC, Key.cs] at hu
theorem allN_snoc {α : Type} (f : α → Int) (l : List α) (x : α) (h : allN f l = 0) : allN f (l ++ [x]) = f x := by
  induction l with
  | nil => simp [allN]; intro h; exact h.symm
  | cons a r ih =>
    unfold allN at h
    by_cases ha : f a = 0
    · rw [if_pos ha] at h; rw [List.cons_append, allN, if_pos ha, ih h]
    · rw [if_neg ha] at h; exact absurd h ha
theorem allN_more {α : Type} (f : α → Int) (l m : List α) (h : allN f l ≠ 0) : allN f (l ++ m) = allN f l := by
  induction l with
  | nil => exact absurd rfl h
  | cons a r ih =>
    unfold allN at h
    by_cases ha : f a = 0
    · rw [if_pos ha] at h; rw [List.cons_append, allN, if_pos ha, ih h, allN, if_pos ha]
    · rw [List.cons_append, allN, if_neg ha, allN, if_neg ha]

theorem parts_plain (c0 c1 id : Int) (h1 : 1 ≤ id) (h2 : id ≤ 1099511627776) (legs : List Leg) : checkN c0 c1 ⟨5, 0, 0, 0, 0, id, legs, []⟩ = if 4 < legs.length then 5 else if legs.length = 0 then 2 else allN (Leg.N c0 c1) legs := by
  have hw : withinB id 1 1099511627776 = true := by simp [withinB, h1, h2]
  by_cases h4 : 4 < legs.length
  · have h0 : 0 < legs.length := by omega
    have h4' : ¬ (legs.length : Int) ≤ 4 := by omega
    simp [checkN, hw, unlessN, firstNZ, h0, h4, h4']
  · have h4' : (legs.length : Int) ≤ 4 := by omega
    by_cases h0 : legs.length = 0
    · simp [checkN, hw, unlessN, firstNZ, h0]
    · have h0' : 0 < legs.length := by omega
      simp [checkN, hw, unlessN, firstNZ, h0, h0', h4, h4']

theorem pairs_plain (c0 c1 : Int) (pairs : List Key) : checkN c0 c1 ⟨8, 0, 0, 0, 0, 0, [], pairs⟩ = if 64 < pairs.length then 5 else allN (Key.N c0 c1) pairs := by
  by_cases h : 64 < pairs.length
  · have h' : ¬ pairs.length ≤ 64 := by omega
    simp [checkN, h, h']
  · have h' : pairs.length ≤ 64 := by omega
    simp [checkN, h, h']

set_option maxRecDepth 100000 in
set_option maxHeartbeats 8000000 in
theorem parts_lo (c0 c1 c2 c3 c4 id : Int) (hi : id < 1) (legs : List Leg) (pairs : List Key) (LA PA : Option Addr) (lc pc : Nat) (w : World) (hrL : Reads w w.heap.size 5 LA legs.length (legsC legs)) (hrP : Reads w w.heap.size 2 PA pairs.length (keysC pairs))
    (hnL : legs.length * 40 ≤ 140737488351232) (hnP : pairs.length * 16 ≤ 140737488351232) (hcL : legs.length ≤ lc) (hcP : pairs.length ≤ pc) (hG : HG w) :
    Calls Tryd.prog 8 #[.agg #[.int .i64 c0, .int .i64 c1, .int .i64 c2, .int .i64 c3, .int .i64 c4], .int .i64 id, .slice LA legs.length lc, .slice PA pairs.length pc] w fun e w' => e = .returned (.bool true) ∧ Below w.heap.size w w' := by
  obtain ⟨g, hg⟩ : ∃ g, w.heap.size = g := ⟨_, rfl⟩
  obtain ⟨W0, hW0⟩ : ∃ W0, w.alloc (.cells #[.int .i64 c0, .int .i64 c1, .int .i64 c2, .int .i64 c3, .int .i64 c4] 23) = W0 := ⟨_, rfl⟩
  have b0 : Blk W0 g 23 #[.int .i64 c0, .int .i64 c1, .int .i64 c2, .int .i64 c3, .int .i64 c4] := by rw [← hW0, ← hg]; exact Blk.new _ _ _
  have hb0 : Below w.heap.size w W0 := by rw [← hW0]; exact (Below.refl _ _).alloc (Nat.le_refl _) _
  go_enter Tryd.func8, Tryd.ntmps8
  go_wp2_with (fail)
  refine (works_calls W0 (hG.below hb0)).mono ?_
  rintro e w1 ⟨rfl, hb1⟩
  have B1 : Below w.heap.size w w1 := hb0.trans (hb1.mono hb0.size)
  have b1 := b0.below hb1 b0.lt
  have k0 : w1.cell? ⟨g, 0, none⟩ = some (.int .i64 c0) := b1.cell 0
  have k1 : w1.cell? ⟨g, 1, none⟩ = some (.int .i64 c1) := b1.cell 1
  have k2 : w1.cell? ⟨g, 2, none⟩ = some (.int .i64 c2) := b1.cell 2
  have k3 : w1.cell? ⟨g, 3, none⟩ = some (.int .i64 c3) := b1.cell 3
  have k4 : w1.cell? ⟨g, 4, none⟩ = some (.int .i64 c4) := b1.cell 4
  clear hW0 b0 hb0 hb1
  obtain ⟨hM0, hM1⟩ := checkN_num c0 c1 ⟨5, 0, 0, 0, 0, 1, legs, []⟩
  have hrL1 : Reads w1 w1.heap.size 5 LA legs.length (legsC legs) := (hrL.below B1).more B1.size
  go_wp2_with (fail)
  refine (check_calls c0 c1 c2 c3 c4 ⟨5, 0, 0, 0, 0, 1, legs, []⟩ LA none lc 0 w1 hrL1 Reads.none_).mono ?_
  rintro e w2 ⟨rfl, hb2⟩
  have B2 : Below w.heap.size w w2 := B1.trans (hb2.mono B1.size)
  have b2 := b1.below hb2 b1.lt
  generalize hN : checkN c0 c1 ⟨5, 0, 0, 0, 0, 1, legs, []⟩ = N at hM0 hM1
  clear k0 k1 k2 k3 k4 b1 hb2 B1 hrL1
  go_upto_block 0 with (go_at_call 31; refine (num_errV N _ hM0 hM1).mono ?_; rintro e w' ⟨rfl, rfl⟩)
  go_cut [10, 11] (fun s10 _ wc => s10 = .int .i64 (allN (Leg.N c0 c1) legs) ∧ Below w2.heap.size w2 wc)
  case rest =>
    obtain ⟨rfl, hbc⟩ := hcut
    have B3 : Below w.heap.size w wc := B2.trans (hbc.mono B2.size)
    have b3 := b2.below hbc b2.lt
    clear hbc b2 B2
    generalize hA : allN (Leg.N c0 c1) legs = A
    go_upto_if 48 with fail
    go_cut [10] (fun s10 wd => s10 = .int .i64 (if legs.length = 0 then 2 else A) ∧ wd = wc)
    case first =>
      by_cases h0 : legs.length = 0
      · have h0' : ((legs.length : Int) == 0) = true := beq_iff_eq.2 (by omega)
        go_wp2
        go_meet
        case rel => exact ⟨by rw [if_pos h0], rfl⟩
      · have h0' : ((legs.length : Int) == 0) = false := beq_eq_false_iff_ne.2 (by omega)
        go_wp2
        go_meet
        case rel => exact ⟨by rw [if_neg h0], rfl⟩
    case rest =>
      obtain ⟨rfl, rfl⟩ := hcut
      generalize hT : (if legs.length = 0 then (2 : Int) else A) = T
      go_upto_if 51 with fail
      go_cut [10] (fun s10 wd => s10 = .int .i64 (if 4 < legs.length then 5 else T) ∧ wd = wc)
      case first =>
        by_cases h0 : 4 < legs.length
        · have h0' : (4 : Int) < (legs.length : Int) := by omega
          go_wp2
          go_meet
          case rel => exact ⟨by rw [if_pos h0], rfl⟩
        · have h0' : ¬ (4 : Int) < (legs.length : Int) := by omega
          go_wp2
          go_meet
          case rel => exact ⟨by rw [if_neg h0], rfl⟩
      case rest =>
        obtain ⟨rfl, rfl⟩ := hcut
        have hE : (if 4 < legs.length then (5 : Int) else T) = N := by
          rw [← hT, ← hA, ← hN]
          exact (parts_plain c0 c1 1 (by omega) (by omega) legs).symm
        rw [hE]
        clear hE hT
        have k0 : wc.cell? ⟨g, 0, none⟩ = some (.int .i64 c0) := b3.cell 0
        have k1 : wc.cell? ⟨g, 1, none⟩ = some (.int .i64 c1) := b3.cell 1
        have k2 : wc.cell? ⟨g, 2, none⟩ = some (.int .i64 c2) := b3.cell 2
        have k3 : wc.cell? ⟨g, 3, none⟩ = some (.int .i64 c3) := b3.cell 3
        have k4 : wc.cell? ⟨g, 4, none⟩ = some (.int .i64 c4) := b3.cell 4
        obtain ⟨hQ0, hQ1⟩ := checkN_num c0 c1 ⟨8, 0, 0, 0, 0, 0, [], pairs⟩
        have hrP3 : Reads wc wc.heap.size 2 PA pairs.length (keysC pairs) := (hrP.below B3).more B3.size
        go_wp2_with (fail)
        refine (check_calls c0 c1 c2 c3 c4 ⟨8, 0, 0, 0, 0, 0, [], pairs⟩ none PA 0 pc wc Reads.none_ hrP3).mono ?_
        rintro e w4 ⟨rfl, hb4⟩
        have B4 : Below w.heap.size w w4 := B3.trans (hb4.mono B3.size)
        have b4 := b3.below hb4 b3.lt
        have hMe : (if 64 < pairs.length then 5 else allN (Key.N c0 c1) pairs) = checkN c0 c1 ⟨8, 0, 0, 0, 0, 0, [], pairs⟩ := (pairs_plain c0 c1 pairs).symm
        generalize hM : checkN c0 c1 ⟨8, 0, 0, 0, 0, 0, [], pairs⟩ = M at hQ0 hQ1 hMe
        clear k0 k1 k2 k3 k4 b3 hb4 B3 hrP3
        go_upto_block 2 with (go_at_call 31; refine (num_errV M _ hQ0 hQ1).mono ?_; rintro e w' ⟨rfl, rfl⟩)
        go_cut [10, 12] (fun s10 _ wd => s10 = .int .i64 (allN (Key.N c0 c1) pairs) ∧ Below w4.heap.size w4 wd)
        case rest =>
          obtain ⟨rfl, hbc⟩ := hcut
          have B5 : Below w.heap.size w wc := B4.trans (hbc.mono B4.size)
          clear hbc b4 B4
          generalize hA2 : allN (Key.N c0 c1) pairs = A2 at hMe
          by_cases h64 : 64 < pairs.length
          · have h64' : (64 : Int) < (pairs.length : Int) := by omega
            rw [if_pos h64] at hMe
            subst hMe
            go_wp2
            go_ret
            first | exact ⟨rfl, B5⟩ | exact ⟨rfl, hg ▸ B5⟩
          · have h64' : ¬ (64 : Int) < (pairs.length : Int) := by omega
            rw [if_neg h64] at hMe
            subst hMe
            go_wp2
            go_ret
            first | exact ⟨rfl, B5⟩ | exact ⟨rfl, hg ▸ B5⟩
        case first =>
            go_wp2_with (fail)
            go_loopw [10, 12] (fun v i wr => ∃ k : Nat, k ≤ pairs.length ∧ i = .int .i64 k ∧ v = .int .i64 (allN (Key.N c0 c1) (pairs.take k)) ∧ Below w4.heap.size w4 wr) (fun _ i _ => pairs.length - (intOf i).toNat)
            case atStart => exact ⟨0, Nat.zero_le _, rfl, rfl, Below.refl _ _⟩
            case round =>
              obtain ⟨k, hk, rfl, rfl, hbel⟩ := hrel
              have BR : Below w.heap.size w wr := B4.trans (hbel.mono B4.size)
              have br := b4.below hbel b4.lt
              have k0 : wr.cell? ⟨g, 0, none⟩ = some (.int .i64 c0) := br.cell 0
              have k1 : wr.cell? ⟨g, 1, none⟩ = some (.int .i64 c1) := br.cell 1
              have k2 : wr.cell? ⟨g, 2, none⟩ = some (.int .i64 c2) := br.cell 2
              have k3 : wr.cell? ⟨g, 3, none⟩ = some (.int .i64 c3) := br.cell 3
              have k4 : wr.cell? ⟨g, 4, none⟩ = some (.int .i64 c4) := br.cell 4
              clear br
              by_cases hlt : k < pairs.length
              · by_cases hz : allN (Key.N c0 c1) (pairs.take k) = 0
                · rw [hz]
                  obtain ⟨ad, rfl, hadb, e0, e1⟩ := keys_at (hrP.below BR) hlt
                  generalize hx : pairs[k] = x at e0 e1
                  have R1 : Reads wr wr.heap.size 2 (some (ad.add (k * 2))) 1 (keysC [x]) := reads_key (by rw [block_of_add]; have := BR.size; omega) e0 e1
                  have R2 : Reads wr.drew wr.drew.heap.size 2 (some (ad.add (k * 2))) 1 (keysC [x]) := R1
                  obtain ⟨hX0, hX1⟩ := checkN_num c0 c1 ⟨8, 0, 0, 0, 0, 0, [], [x]⟩
                  have hXe : checkN c0 c1 ⟨8, 0, 0, 0, 0, 0, [], [x]⟩ = Key.N c0 c1 x := by simp [checkN, allN, withinB, unlessN, firstNZ]; intro h; exact h.symm
                  rw [hXe] at hX0 hX1
                  clear hadb e0 e1 R1
                  have hkl : (k : Int) < pairs.length := by omega
                  have hk0 : (0 : Int) ≤ k := by omega
                  have hk1 : (k : Int) ≤ (k : Int) + 1 := by omega
                  have hk2 : (k : Int) + 1 ≤ pc := by omega
                  have hk3 : ¬ k = pc := by omega
                  have hk4 : ¬ pc = k := by omega
                  have hw : IntKind.i64.wrap ((k : Int) + 1) = (k : Int) + 1 := by
                    rw [IntKind.wrap_i64]; omega
                  go_wp2_with (fail)
                  go_region_held3 (fun w' => w'.cell? ⟨g, 0, none⟩ = some (.int .i64 c0) ∧ w'.cell? ⟨g, 1, none⟩ = some (.int .i64 c1) ∧ w'.cell? ⟨g, 2, none⟩ = some (.int .i64 c2) ∧ w'.cell? ⟨g, 3, none⟩ = some (.int .i64 c3) ∧ w'.cell? ⟨g, 4, none⟩ = some (.int .i64 c4))
                    (first | go_keep | fail)
                    (first
                      | (go_at_call 23; refine (check_calls c0 c1 c2 c3 c4 ⟨8, 0, 0, 0, 0, 0, [], [x]⟩ none _ 0 _ wr.drew Reads.none_ R2).mono ?_; rintro e w3 ⟨rfl, hb3⟩; rw [hXe]; have q0 := cell_below (w := wr.drew) hb3 k0; have q1 := cell_below (w := wr.drew) hb3 k1; have q2 := cell_below (w := wr.drew) hb3 k2; have q3 := cell_below (w := wr.drew) hb3 k3; have q4 := cell_below (w := wr.drew) hb3 k4)
                      | (go_at_call 31; refine (num_errV _ _ hX0 hX1).mono ?_; rintro e w' ⟨rfl, rfl⟩))
                  go_wp2
                  go_roundw
                  case rel =>
                    have htk : pairs.take (k + 1) = pairs.take k ++ [x] := by rw [List.take_succ_eq_append_getElem hlt, hx]
                    exact ⟨k + 1, by omega, by go_num, by rw [htk, allN_snoc _ _ _ hz], hbel.trans (Below.mono (Below.trans (Below.refl _ _).drew (hb3.mono (Nat.le_refl _))) hbel.size)⟩
                  case measure => simp [intOf]; omega
                · have hz' : (allN (Key.N c0 c1) (pairs.take k) == 0) = false := beq_eq_false_iff_ne.2 hz
                  have hkl : (k : Int) < pairs.length := by omega
                  have hall : allN (Key.N c0 c1) pairs = allN (Key.N c0 c1) (pairs.take k) := by
                    have h := allN_more (Key.N c0 c1) (pairs.take k) (pairs.drop k) hz
                    rwa [List.take_append_drop] at h
                  go_wp2
                  go_meet
                  case rel => exact ⟨by rw [hall], hbel⟩
              · obtain rfl : k = pairs.length := by omega
                rw [List.take_length]
                go_wp2
                go_meet
                case rel => exact ⟨rfl, hbel⟩

  case first =>
  go_wp2_with (fail)
  go_loopw [10, 11] (fun v i wr => ∃ k : Nat, k ≤ legs.length ∧ i = .int .i64 k ∧ v = .int .i64 (allN (Leg.N c0 c1) (legs.take k)) ∧ Below w2.heap.size w2 wr) (fun _ i _ => legs.length - (intOf i).toNat)
  case atStart => exact ⟨0, Nat.zero_le _, rfl, rfl, Below.refl _ _⟩
  case round =>
    obtain ⟨k, hk, rfl, rfl, hbel⟩ := hrel
    have BR : Below w.heap.size w wr := B2.trans (hbel.mono B2.size)
    have br := b2.below hbel b2.lt
    have k0 : wr.cell? ⟨g, 0, none⟩ = some (.int .i64 c0) := br.cell 0
    have k1 : wr.cell? ⟨g, 1, none⟩ = some (.int .i64 c1) := br.cell 1
    have k2 : wr.cell? ⟨g, 2, none⟩ = some (.int .i64 c2) := br.cell 2
    have k3 : wr.cell? ⟨g, 3, none⟩ = some (.int .i64 c3) := br.cell 3
    have k4 : wr.cell? ⟨g, 4, none⟩ = some (.int .i64 c4) := br.cell 4
    clear br
    by_cases hlt : k < legs.length
    · by_cases hz : allN (Leg.N c0 c1) (legs.take k) = 0
      · rw [hz]
        obtain ⟨ad, rfl, hadb, e0, e1, e2, e3, e4⟩ := legs_at (hrL.below BR) hlt
        generalize hx : legs[k] = x at e0 e1 e2 e3 e4
        have R1 : Reads wr wr.heap.size 5 (some (ad.add (k * 5))) 1 (legsC [x]) := reads_leg (by rw [block_of_add]; have := BR.size; omega) e0 e1 e2 e3 e4
        have R2 : Reads wr.drew wr.drew.heap.size 5 (some (ad.add (k * 5))) 1 (legsC [x]) := R1
        obtain ⟨hX0, hX1⟩ := checkN_num c0 c1 ⟨5, 0, 0, 0, 0, 1, [x], []⟩
        have hXe : checkN c0 c1 ⟨5, 0, 0, 0, 0, 1, [x], []⟩ = Leg.N c0 c1 x := by simp [checkN, allN, withinB, unlessN, firstNZ]; intro h; exact h.symm
        rw [hXe] at hX0 hX1
        clear hadb e0 e1 e2 e3 e4 R1
        have hkl : (k : Int) < legs.length := by omega
        have hk0 : (0 : Int) ≤ k := by omega
        have hk1 : (k : Int) ≤ (k : Int) + 1 := by omega
        have hk2 : (k : Int) + 1 ≤ lc := by omega
        have hk3 : ¬ k = lc := by omega
        have hk4 : ¬ lc = k := by omega
        have hw : IntKind.i64.wrap ((k : Int) + 1) = (k : Int) + 1 := by
          rw [IntKind.wrap_i64]; omega
        go_wp2_with (fail)
        go_region_held3 (fun w' => w'.cell? ⟨g, 0, none⟩ = some (.int .i64 c0) ∧ w'.cell? ⟨g, 1, none⟩ = some (.int .i64 c1) ∧ w'.cell? ⟨g, 2, none⟩ = some (.int .i64 c2) ∧ w'.cell? ⟨g, 3, none⟩ = some (.int .i64 c3) ∧ w'.cell? ⟨g, 4, none⟩ = some (.int .i64 c4))
          (first | go_keep | fail)
          (first
            | (go_at_call 23; refine (check_calls c0 c1 c2 c3 c4 ⟨5, 0, 0, 0, 0, 1, [x], []⟩ _ none _ 0 wr.drew R2 Reads.none_).mono ?_; rintro e w3 ⟨rfl, hb3⟩; rw [hXe]; have q0 := cell_below (w := wr.drew) hb3 k0; have q1 := cell_below (w := wr.drew) hb3 k1; have q2 := cell_below (w := wr.drew) hb3 k2; have q3 := cell_below (w := wr.drew) hb3 k3; have q4 := cell_below (w := wr.drew) hb3 k4)
            | (go_at_call 31; refine (num_errV _ _ hX0 hX1).mono ?_; rintro e w' ⟨rfl, rfl⟩))
        go_wp2
        go_roundw
        case rel =>
          have htk : legs.take (k + 1) = legs.take k ++ [x] := by rw [List.take_succ_eq_append_getElem hlt, hx]
          exact ⟨k + 1, by omega, by go_num, by rw [htk, allN_snoc _ _ _ hz], hbel.trans (Below.mono (Below.trans (Below.refl _ _).drew (hb3.mono (Nat.le_refl _))) hbel.size)⟩
        case measure => simp [intOf]; omega
      · have hz' : (allN (Leg.N c0 c1) (legs.take k) == 0) = false := beq_eq_false_iff_ne.2 hz
        have hkl : (k : Int) < legs.length := by omega
        have hall : allN (Leg.N c0 c1) legs = allN (Leg.N c0 c1) (legs.take k) := by
          have h := allN_more (Leg.N c0 c1) (legs.take k) (legs.drop k) hz
          rwa [List.take_append_drop] at h
        go_wp2
        go_meet
        case rel => exact ⟨by rw [hall], hbel⟩
    · obtain rfl : k = legs.length := by omega
      rw [List.take_length]
      go_wp2
      go_meet
      case rel => exact ⟨rfl, hbel⟩

set_option maxRecDepth 100000 in
set_option maxHeartbeats 8000000 in
theorem parts_hi (c0 c1 c2 c3 c4 id : Int) (hj : ¬ id < 1) (hi : 1099511627776 < id) (legs : List Leg) (pairs : List Key) (LA PA : Option Addr) (lc pc : Nat) (w : World) (hrL : Reads w w.heap.size 5 LA legs.length (legsC legs)) (hrP : Reads w w.heap.size 2 PA pairs.length (keysC pairs))
    (hnL : legs.length * 40 ≤ 140737488351232) (hnP : pairs.length * 16 ≤ 140737488351232) (hcL : legs.length ≤ lc) (hcP : pairs.length ≤ pc) (hG : HG w) :
    Calls Tryd.prog 8 #[.agg #[.int .i64 c0, .int .i64 c1, .int .i64 c2, .int .i64 c3, .int .i64 c4], .int .i64 id, .slice LA legs.length lc, .slice PA pairs.length pc] w fun e w' => e = .returned (.bool true) ∧ Below w.heap.size w w' := by
  obtain ⟨g, hg⟩ : ∃ g, w.heap.size = g := ⟨_, rfl⟩
  obtain ⟨W0, hW0⟩ : ∃ W0, w.alloc (.cells #[.int .i64 c0, .int .i64 c1, .int .i64 c2, .int .i64 c3, .int .i64 c4] 23) = W0 := ⟨_, rfl⟩
  have b0 : Blk W0 g 23 #[.int .i64 c0, .int .i64 c1, .int .i64 c2, .int .i64 c3, .int .i64 c4] := by rw [← hW0, ← hg]; exact Blk.new _ _ _
  have hb0 : Below w.heap.size w W0 := by rw [← hW0]; exact (Below.refl _ _).alloc (Nat.le_refl _) _
  go_enter Tryd.func8, Tryd.ntmps8
  go_wp2_with (fail)
  refine (works_calls W0 (hG.below hb0)).mono ?_
  rintro e w1 ⟨rfl, hb1⟩
  have B1 : Below w.heap.size w w1 := hb0.trans (hb1.mono hb0.size)
  have b1 := b0.below hb1 b0.lt
  have k0 : w1.cell? ⟨g, 0, none⟩ = some (.int .i64 c0) := b1.cell 0
  have k1 : w1.cell? ⟨g, 1, none⟩ = some (.int .i64 c1) := b1.cell 1
  have k2 : w1.cell? ⟨g, 2, none⟩ = some (.int .i64 c2) := b1.cell 2
  have k3 : w1.cell? ⟨g, 3, none⟩ = some (.int .i64 c3) := b1.cell 3
  have k4 : w1.cell? ⟨g, 4, none⟩ = some (.int .i64 c4) := b1.cell 4
  clear hW0 b0 hb0 hb1
  obtain ⟨hM0, hM1⟩ := checkN_num c0 c1 ⟨5, 0, 0, 0, 0, 1, legs, []⟩
  have hrL1 : Reads w1 w1.heap.size 5 LA legs.length (legsC legs) := (hrL.below B1).more B1.size
  go_wp2_with (fail)
  refine (check_calls c0 c1 c2 c3 c4 ⟨5, 0, 0, 0, 0, 1, legs, []⟩ LA none lc 0 w1 hrL1 Reads.none_).mono ?_
  rintro e w2 ⟨rfl, hb2⟩
  have B2 : Below w.heap.size w w2 := B1.trans (hb2.mono B1.size)
  have b2 := b1.below hb2 b1.lt
  generalize hN : checkN c0 c1 ⟨5, 0, 0, 0, 0, 1, legs, []⟩ = N at hM0 hM1
  clear k0 k1 k2 k3 k4 b1 hb2 B1 hrL1
  go_upto_block 0 with (go_at_call 31; refine (num_errV N _ hM0 hM1).mono ?_; rintro e w' ⟨rfl, rfl⟩)
  go_cut [10, 11] (fun s10 _ wc => s10 = .int .i64 (allN (Leg.N c0 c1) legs) ∧ Below w2.heap.size w2 wc)
  case rest =>
    obtain ⟨rfl, hbc⟩ := hcut
    have B3 : Below w.heap.size w wc := B2.trans (hbc.mono B2.size)
    have b3 := b2.below hbc b2.lt
    clear hbc b2 B2
    generalize hA : allN (Leg.N c0 c1) legs = A
    go_upto_if 48 with fail
    go_cut [10] (fun s10 wd => s10 = .int .i64 (if legs.length = 0 then 2 else A) ∧ wd = wc)
    case first =>
      by_cases h0 : legs.length = 0
      · have h0' : ((legs.length : Int) == 0) = true := beq_iff_eq.2 (by omega)
        go_wp2
        go_meet
        case rel => exact ⟨by rw [if_pos h0], rfl⟩
      · have h0' : ((legs.length : Int) == 0) = false := beq_eq_false_iff_ne.2 (by omega)
        go_wp2
        go_meet
        case rel => exact ⟨by rw [if_neg h0], rfl⟩
    case rest =>
      obtain ⟨rfl, rfl⟩ := hcut
      generalize hT : (if legs.length = 0 then (2 : Int) else A) = T
      go_upto_if 51 with fail
      go_cut [10] (fun s10 wd => s10 = .int .i64 (if 4 < legs.length then 5 else T) ∧ wd = wc)
      case first =>
        by_cases h0 : 4 < legs.length
        · have h0' : (4 : Int) < (legs.length : Int) := by omega
          go_wp2
          go_meet
          case rel => exact ⟨by rw [if_pos h0], rfl⟩
        · have h0' : ¬ (4 : Int) < (legs.length : Int) := by omega
          go_wp2
          go_meet
          case rel => exact ⟨by rw [if_neg h0], rfl⟩
      case rest =>
        obtain ⟨rfl, rfl⟩ := hcut
        have hE : (if 4 < legs.length then (5 : Int) else T) = N := by
          rw [← hT, ← hA, ← hN]
          exact (parts_plain c0 c1 1 (by omega) (by omega) legs).symm
        rw [hE]
        clear hE hT
        have k0 : wc.cell? ⟨g, 0, none⟩ = some (.int .i64 c0) := b3.cell 0
        have k1 : wc.cell? ⟨g, 1, none⟩ = some (.int .i64 c1) := b3.cell 1
        have k2 : wc.cell? ⟨g, 2, none⟩ = some (.int .i64 c2) := b3.cell 2
        have k3 : wc.cell? ⟨g, 3, none⟩ = some (.int .i64 c3) := b3.cell 3
        have k4 : wc.cell? ⟨g, 4, none⟩ = some (.int .i64 c4) := b3.cell 4
        obtain ⟨hQ0, hQ1⟩ := checkN_num c0 c1 ⟨8, 0, 0, 0, 0, 0, [], pairs⟩
        have hrP3 : Reads wc wc.heap.size 2 PA pairs.length (keysC pairs) := (hrP.below B3).more B3.size
        go_wp2_with (fail)
        refine (check_calls c0 c1 c2 c3 c4 ⟨8, 0, 0, 0, 0, 0, [], pairs⟩ none PA 0 pc wc Reads.none_ hrP3).mono ?_
        rintro e w4 ⟨rfl, hb4⟩
        have B4 : Below w.heap.size w w4 := B3.trans (hb4.mono B3.size)
        have b4 := b3.below hb4 b3.lt
        have hMe : (if 64 < pairs.length then 5 else allN (Key.N c0 c1) pairs) = checkN c0 c1 ⟨8, 0, 0, 0, 0, 0, [], pairs⟩ := (pairs_plain c0 c1 pairs).symm
        generalize hM : checkN c0 c1 ⟨8, 0, 0, 0, 0, 0, [], pairs⟩ = M at hQ0 hQ1 hMe
        clear k0 k1 k2 k3 k4 b3 hb4 B3 hrP3
        go_upto_block 2 with (go_at_call 31; refine (num_errV M _ hQ0 hQ1).mono ?_; rintro e w' ⟨rfl, rfl⟩)
        go_cut [10, 12] (fun s10 _ wd => s10 = .int .i64 (allN (Key.N c0 c1) pairs) ∧ Below w4.heap.size w4 wd)
        case rest =>
          obtain ⟨rfl, hbc⟩ := hcut
          have B5 : Below w.heap.size w wc := B4.trans (hbc.mono B4.size)
          clear hbc b4 B4
          generalize hA2 : allN (Key.N c0 c1) pairs = A2 at hMe
          by_cases h64 : 64 < pairs.length
          · have h64' : (64 : Int) < (pairs.length : Int) := by omega
            rw [if_pos h64] at hMe
            subst hMe
            go_wp2
            go_ret
            first | exact ⟨rfl, B5⟩ | exact ⟨rfl, hg ▸ B5⟩
          · have h64' : ¬ (64 : Int) < (pairs.length : Int) := by omega
            rw [if_neg h64] at hMe
            subst hMe
            go_wp2
            go_ret
            first | exact ⟨rfl, B5⟩ | exact ⟨rfl, hg ▸ B5⟩
        case first =>
            go_wp2_with (fail)
            go_loopw [10, 12] (fun v i wr => ∃ k : Nat, k ≤ pairs.length ∧ i = .int .i64 k ∧ v = .int .i64 (allN (Key.N c0 c1) (pairs.take k)) ∧ Below w4.heap.size w4 wr) (fun _ i _ => pairs.length - (intOf i).toNat)
            case atStart => exact ⟨0, Nat.zero_le _, rfl, rfl, Below.refl _ _⟩
            case round =>
              obtain ⟨k, hk, rfl, rfl, hbel⟩ := hrel
              have BR : Below w.heap.size w wr := B4.trans (hbel.mono B4.size)
              have br := b4.below hbel b4.lt
              have k0 : wr.cell? ⟨g, 0, none⟩ = some (.int .i64 c0) := br.cell 0
              have k1 : wr.cell? ⟨g, 1, none⟩ = some (.int .i64 c1) := br.cell 1
              have k2 : wr.cell? ⟨g, 2, none⟩ = some (.int .i64 c2) := br.cell 2
              have k3 : wr.cell? ⟨g, 3, none⟩ = some (.int .i64 c3) := br.cell 3
              have k4 : wr.cell? ⟨g, 4, none⟩ = some (.int .i64 c4) := br.cell 4
              clear br
              by_cases hlt : k < pairs.length
              · by_cases hz : allN (Key.N c0 c1) (pairs.take k) = 0
                · rw [hz]
                  obtain ⟨ad, rfl, hadb, e0, e1⟩ := keys_at (hrP.below BR) hlt
                  generalize hx : pairs[k] = x at e0 e1
                  have R1 : Reads wr wr.heap.size 2 (some (ad.add (k * 2))) 1 (keysC [x]) := reads_key (by rw [block_of_add]; have := BR.size; omega) e0 e1
                  have R2 : Reads wr.drew wr.drew.heap.size 2 (some (ad.add (k * 2))) 1 (keysC [x]) := R1
                  obtain ⟨hX0, hX1⟩ := checkN_num c0 c1 ⟨8, 0, 0, 0, 0, 0, [], [x]⟩
                  have hXe : checkN c0 c1 ⟨8, 0, 0, 0, 0, 0, [], [x]⟩ = Key.N c0 c1 x := by simp [checkN, allN, withinB, unlessN, firstNZ]; intro h; exact h.symm
                  rw [hXe] at hX0 hX1
                  clear hadb e0 e1 R1
                  have hkl : (k : Int) < pairs.length := by omega
                  have hk0 : (0 : Int) ≤ k := by omega
                  have hk1 : (k : Int) ≤ (k : Int) + 1 := by omega
                  have hk2 : (k : Int) + 1 ≤ pc := by omega
                  have hk3 : ¬ k = pc := by omega
                  have hk4 : ¬ pc = k := by omega
                  have hw : IntKind.i64.wrap ((k : Int) + 1) = (k : Int) + 1 := by
                    rw [IntKind.wrap_i64]; omega
                  go_wp2_with (fail)
                  go_region_held3 (fun w' => w'.cell? ⟨g, 0, none⟩ = some (.int .i64 c0) ∧ w'.cell? ⟨g, 1, none⟩ = some (.int .i64 c1) ∧ w'.cell? ⟨g, 2, none⟩ = some (.int .i64 c2) ∧ w'.cell? ⟨g, 3, none⟩ = some (.int .i64 c3) ∧ w'.cell? ⟨g, 4, none⟩ = some (.int .i64 c4))
                    (first | go_keep | fail)
                    (first
                      | (go_at_call 23; refine (check_calls c0 c1 c2 c3 c4 ⟨8, 0, 0, 0, 0, 0, [], [x]⟩ none _ 0 _ wr.drew Reads.none_ R2).mono ?_; rintro e w3 ⟨rfl, hb3⟩; rw [hXe]; have q0 := cell_below (w := wr.drew) hb3 k0; have q1 := cell_below (w := wr.drew) hb3 k1; have q2 := cell_below (w := wr.drew) hb3 k2; have q3 := cell_below (w := wr.drew) hb3 k3; have q4 := cell_below (w := wr.drew) hb3 k4)
                      | (go_at_call 31; refine (num_errV _ _ hX0 hX1).mono ?_; rintro e w' ⟨rfl, rfl⟩))
                  go_wp2
                  go_roundw
                  case rel =>
                    have htk : pairs.take (k + 1) = pairs.take k ++ [x] := by rw [List.take_succ_eq_append_getElem hlt, hx]
                    exact ⟨k + 1, by omega, by go_num, by rw [htk, allN_snoc _ _ _ hz], hbel.trans (Below.mono (Below.trans (Below.refl _ _).drew (hb3.mono (Nat.le_refl _))) hbel.size)⟩
                  case measure => simp [intOf]; omega
                · have hz' : (allN (Key.N c0 c1) (pairs.take k) == 0) = false := beq_eq_false_iff_ne.2 hz
                  have hkl : (k : Int) < pairs.length := by omega
                  have hall : allN (Key.N c0 c1) pairs = allN (Key.N c0 c1) (pairs.take k) := by
                    have h := allN_more (Key.N c0 c1) (pairs.take k) (pairs.drop k) hz
                    rwa [List.take_append_drop] at h
                  go_wp2
                  go_meet
                  case rel => exact ⟨by rw [hall], hbel⟩
              · obtain rfl : k = pairs.length := by omega
                rw [List.take_length]
                go_wp2
                go_meet
                case rel => exact ⟨rfl, hbel⟩

  case first =>
  go_wp2_with (fail)
  go_loopw [10, 11] (fun v i wr => ∃ k : Nat, k ≤ legs.length ∧ i = .int .i64 k ∧ v = .int .i64 (allN (Leg.N c0 c1) (legs.take k)) ∧ Below w2.heap.size w2 wr) (fun _ i _ => legs.length - (intOf i).toNat)
  case atStart => exact ⟨0, Nat.zero_le _, rfl, rfl, Below.refl _ _⟩
  case round =>
    obtain ⟨k, hk, rfl, rfl, hbel⟩ := hrel
    have BR : Below w.heap.size w wr := B2.trans (hbel.mono B2.size)
    have br := b2.below hbel b2.lt
    have k0 : wr.cell? ⟨g, 0, none⟩ = some (.int .i64 c0) := br.cell 0
    have k1 : wr.cell? ⟨g, 1, none⟩ = some (.int .i64 c1) := br.cell 1
    have k2 : wr.cell? ⟨g, 2, none⟩ = some (.int .i64 c2) := br.cell 2
    have k3 : wr.cell? ⟨g, 3, none⟩ = some (.int .i64 c3) := br.cell 3
    have k4 : wr.cell? ⟨g, 4, none⟩ = some (.int .i64 c4) := br.cell 4
    clear br
    by_cases hlt : k < legs.length
    · by_cases hz : allN (Leg.N c0 c1) (legs.take k) = 0
      · rw [hz]
        obtain ⟨ad, rfl, hadb, e0, e1, e2, e3, e4⟩ := legs_at (hrL.below BR) hlt
        generalize hx : legs[k] = x at e0 e1 e2 e3 e4
        have R1 : Reads wr wr.heap.size 5 (some (ad.add (k * 5))) 1 (legsC [x]) := reads_leg (by rw [block_of_add]; have := BR.size; omega) e0 e1 e2 e3 e4
        have R2 : Reads wr.drew wr.drew.heap.size 5 (some (ad.add (k * 5))) 1 (legsC [x]) := R1
        obtain ⟨hX0, hX1⟩ := checkN_num c0 c1 ⟨5, 0, 0, 0, 0, 1, [x], []⟩
        have hXe : checkN c0 c1 ⟨5, 0, 0, 0, 0, 1, [x], []⟩ = Leg.N c0 c1 x := by simp [checkN, allN, withinB, unlessN, firstNZ]; intro h; exact h.symm
        rw [hXe] at hX0 hX1
        clear hadb e0 e1 e2 e3 e4 R1
        have hkl : (k : Int) < legs.length := by omega
        have hk0 : (0 : Int) ≤ k := by omega
        have hk1 : (k : Int) ≤ (k : Int) + 1 := by omega
        have hk2 : (k : Int) + 1 ≤ lc := by omega
        have hk3 : ¬ k = lc := by omega
        have hk4 : ¬ lc = k := by omega
        have hw : IntKind.i64.wrap ((k : Int) + 1) = (k : Int) + 1 := by
          rw [IntKind.wrap_i64]; omega
        go_wp2_with (fail)
        go_region_held3 (fun w' => w'.cell? ⟨g, 0, none⟩ = some (.int .i64 c0) ∧ w'.cell? ⟨g, 1, none⟩ = some (.int .i64 c1) ∧ w'.cell? ⟨g, 2, none⟩ = some (.int .i64 c2) ∧ w'.cell? ⟨g, 3, none⟩ = some (.int .i64 c3) ∧ w'.cell? ⟨g, 4, none⟩ = some (.int .i64 c4))
          (first | go_keep | fail)
          (first
            | (go_at_call 23; refine (check_calls c0 c1 c2 c3 c4 ⟨5, 0, 0, 0, 0, 1, [x], []⟩ _ none _ 0 wr.drew R2 Reads.none_).mono ?_; rintro e w3 ⟨rfl, hb3⟩; rw [hXe]; have q0 := cell_below (w := wr.drew) hb3 k0; have q1 := cell_below (w := wr.drew) hb3 k1; have q2 := cell_below (w := wr.drew) hb3 k2; have q3 := cell_below (w := wr.drew) hb3 k3; have q4 := cell_below (w := wr.drew) hb3 k4)
            | (go_at_call 31; refine (num_errV _ _ hX0 hX1).mono ?_; rintro e w' ⟨rfl, rfl⟩))
        go_wp2
        go_roundw
        case rel =>
          have htk : legs.take (k + 1) = legs.take k ++ [x] := by rw [List.take_succ_eq_append_getElem hlt, hx]
          exact ⟨k + 1, by omega, by go_num, by rw [htk, allN_snoc _ _ _ hz], hbel.trans (Below.mono (Below.trans (Below.refl _ _).drew (hb3.mono (Nat.le_refl _))) hbel.size)⟩
        case measure => simp [intOf]; omega
      · have hz' : (allN (Leg.N c0 c1) (legs.take k) == 0) = false := beq_eq_false_iff_ne.2 hz
        have hkl : (k : Int) < legs.length := by omega
        have hall : allN (Leg.N c0 c1) legs = allN (Leg.N c0 c1) (legs.take k) := by
          have h := allN_more (Leg.N c0 c1) (legs.take k) (legs.drop k) hz
          rwa [List.take_append_drop] at h
        go_wp2
        go_meet
        case rel => exact ⟨by rw [hall], hbel⟩
    · obtain rfl : k = legs.length := by omega
      rw [List.take_length]
      go_wp2
      go_meet
      case rel => exact ⟨rfl, hbel⟩

set_option maxRecDepth 100000 in
set_option maxHeartbeats 8000000 in
theorem parts_mid (c0 c1 c2 c3 c4 id : Int) (hj : ¬ id < 1) (hi : ¬ 1099511627776 < id) (legs : List Leg) (pairs : List Key) (LA PA : Option Addr) (lc pc : Nat) (w : World) (hrL : Reads w w.heap.size 5 LA legs.length (legsC legs)) (hrP : Reads w w.heap.size 2 PA pairs.length (keysC pairs))
    (hnL : legs.length * 40 ≤ 140737488351232) (hnP : pairs.length * 16 ≤ 140737488351232) (hcL : legs.length ≤ lc) (hcP : pairs.length ≤ pc) (hG : HG w) :
    Calls Tryd.prog 8 #[.agg #[.int .i64 c0, .int .i64 c1, .int .i64 c2, .int .i64 c3, .int .i64 c4], .int .i64 id, .slice LA legs.length lc, .slice PA pairs.length pc] w fun e w' => e = .returned (.bool true) ∧ Below w.heap.size w w' := by
  obtain ⟨g, hg⟩ : ∃ g, w.heap.size = g := ⟨_, rfl⟩
  obtain ⟨W0, hW0⟩ : ∃ W0, w.alloc (.cells #[.int .i64 c0, .int .i64 c1, .int .i64 c2, .int .i64 c3, .int .i64 c4] 23) = W0 := ⟨_, rfl⟩
  have b0 : Blk W0 g 23 #[.int .i64 c0, .int .i64 c1, .int .i64 c2, .int .i64 c3, .int .i64 c4] := by rw [← hW0, ← hg]; exact Blk.new _ _ _
  have hb0 : Below w.heap.size w W0 := by rw [← hW0]; exact (Below.refl _ _).alloc (Nat.le_refl _) _
  go_enter Tryd.func8, Tryd.ntmps8
  go_wp2_with (fail)
  refine (works_calls W0 (hG.below hb0)).mono ?_
  rintro e w1 ⟨rfl, hb1⟩
  have B1 : Below w.heap.size w w1 := hb0.trans (hb1.mono hb0.size)
  have b1 := b0.below hb1 b0.lt
  have k0 : w1.cell? ⟨g, 0, none⟩ = some (.int .i64 c0) := b1.cell 0
  have k1 : w1.cell? ⟨g, 1, none⟩ = some (.int .i64 c1) := b1.cell 1
  have k2 : w1.cell? ⟨g, 2, none⟩ = some (.int .i64 c2) := b1.cell 2
  have k3 : w1.cell? ⟨g, 3, none⟩ = some (.int .i64 c3) := b1.cell 3
  have k4 : w1.cell? ⟨g, 4, none⟩ = some (.int .i64 c4) := b1.cell 4
  clear hW0 b0 hb0 hb1
  obtain ⟨hM0, hM1⟩ := checkN_num c0 c1 ⟨5, 0, 0, 0, 0, id, legs, []⟩
  have hrL1 : Reads w1 w1.heap.size 5 LA legs.length (legsC legs) := (hrL.below B1).more B1.size
  go_wp2_with (fail)
  refine (check_calls c0 c1 c2 c3 c4 ⟨5, 0, 0, 0, 0, id, legs, []⟩ LA none lc 0 w1 hrL1 Reads.none_).mono ?_
  rintro e w2 ⟨rfl, hb2⟩
  have B2 : Below w.heap.size w w2 := B1.trans (hb2.mono B1.size)
  have b2 := b1.below hb2 b1.lt
  generalize hN : checkN c0 c1 ⟨5, 0, 0, 0, 0, id, legs, []⟩ = N at hM0 hM1
  clear k0 k1 k2 k3 k4 b1 hb2 B1 hrL1
  go_upto_block 0 with (go_at_call 31; refine (num_errV N _ hM0 hM1).mono ?_; rintro e w' ⟨rfl, rfl⟩)
  go_cut [10, 11] (fun s10 _ wc => s10 = .int .i64 (allN (Leg.N c0 c1) legs) ∧ Below w2.heap.size w2 wc)
  case rest =>
    obtain ⟨rfl, hbc⟩ := hcut
    have B3 : Below w.heap.size w wc := B2.trans (hbc.mono B2.size)
    have b3 := b2.below hbc b2.lt
    clear hbc b2 B2
    generalize hA : allN (Leg.N c0 c1) legs = A
    go_upto_if 48 with fail
    go_cut [10] (fun s10 wd => s10 = .int .i64 (if legs.length = 0 then 2 else A) ∧ wd = wc)
    case first =>
      by_cases h0 : legs.length = 0
      · have h0' : ((legs.length : Int) == 0) = true := beq_iff_eq.2 (by omega)
        go_wp2
        go_meet
        case rel => exact ⟨by rw [if_pos h0], rfl⟩
      · have h0' : ((legs.length : Int) == 0) = false := beq_eq_false_iff_ne.2 (by omega)
        go_wp2
        go_meet
        case rel => exact ⟨by rw [if_neg h0], rfl⟩
    case rest =>
      obtain ⟨rfl, rfl⟩ := hcut
      generalize hT : (if legs.length = 0 then (2 : Int) else A) = T
      go_upto_if 51 with fail
      go_cut [10] (fun s10 wd => s10 = .int .i64 (if 4 < legs.length then 5 else T) ∧ wd = wc)
      case first =>
        by_cases h0 : 4 < legs.length
        · have h0' : (4 : Int) < (legs.length : Int) := by omega
          go_wp2
          go_meet
          case rel => exact ⟨by rw [if_pos h0], rfl⟩
        · have h0' : ¬ (4 : Int) < (legs.length : Int) := by omega
          go_wp2
          go_meet
          case rel => exact ⟨by rw [if_neg h0], rfl⟩
      case rest =>
        obtain ⟨rfl, rfl⟩ := hcut
        have hE : (if 4 < legs.length then (5 : Int) else T) = N := by
          rw [← hT, ← hA, ← hN]
          exact (parts_plain c0 c1 id (by omega) (by omega) legs).symm
        rw [hE]
        clear hE hT
        have k0 : wc.cell? ⟨g, 0, none⟩ = some (.int .i64 c0) := b3.cell 0
        have k1 : wc.cell? ⟨g, 1, none⟩ = some (.int .i64 c1) := b3.cell 1
        have k2 : wc.cell? ⟨g, 2, none⟩ = some (.int .i64 c2) := b3.cell 2
        have k3 : wc.cell? ⟨g, 3, none⟩ = some (.int .i64 c3) := b3.cell 3
        have k4 : wc.cell? ⟨g, 4, none⟩ = some (.int .i64 c4) := b3.cell 4
        obtain ⟨hQ0, hQ1⟩ := checkN_num c0 c1 ⟨8, 0, 0, 0, 0, 0, [], pairs⟩
        have hrP3 : Reads wc wc.heap.size 2 PA pairs.length (keysC pairs) := (hrP.below B3).more B3.size
        go_wp2_with (fail)
        refine (check_calls c0 c1 c2 c3 c4 ⟨8, 0, 0, 0, 0, 0, [], pairs⟩ none PA 0 pc wc Reads.none_ hrP3).mono ?_
        rintro e w4 ⟨rfl, hb4⟩
        have B4 : Below w.heap.size w w4 := B3.trans (hb4.mono B3.size)
        have b4 := b3.below hb4 b3.lt
        have hMe : (if 64 < pairs.length then 5 else allN (Key.N c0 c1) pairs) = checkN c0 c1 ⟨8, 0, 0, 0, 0, 0, [], pairs⟩ := (pairs_plain c0 c1 pairs).symm
        generalize hM : checkN c0 c1 ⟨8, 0, 0, 0, 0, 0, [], pairs⟩ = M at hQ0 hQ1 hMe
        clear k0 k1 k2 k3 k4 b3 hb4 B3 hrP3
        go_upto_block 2 with (go_at_call 31; refine (num_errV M _ hQ0 hQ1).mono ?_; rintro e w' ⟨rfl, rfl⟩)
        go_cut [10, 12] (fun s10 _ wd => s10 = .int .i64 (allN (Key.N c0 c1) pairs) ∧ Below w4.heap.size w4 wd)
        case rest =>
          obtain ⟨rfl, hbc⟩ := hcut
          have B5 : Below w.heap.size w wc := B4.trans (hbc.mono B4.size)
          clear hbc b4 B4
          generalize hA2 : allN (Key.N c0 c1) pairs = A2 at hMe
          by_cases h64 : 64 < pairs.length
          · have h64' : (64 : Int) < (pairs.length : Int) := by omega
            rw [if_pos h64] at hMe
            subst hMe
            go_wp2
            go_ret
            first | exact ⟨rfl, B5⟩ | exact ⟨rfl, hg ▸ B5⟩
          · have h64' : ¬ (64 : Int) < (pairs.length : Int) := by omega
            rw [if_neg h64] at hMe
            subst hMe
            go_wp2
            go_ret
            first | exact ⟨rfl, B5⟩ | exact ⟨rfl, hg ▸ B5⟩
        case first =>
            go_wp2_with (fail)
            go_loopw [10, 12] (fun v i wr => ∃ k : Nat, k ≤ pairs.length ∧ i = .int .i64 k ∧ v = .int .i64 (allN (Key.N c0 c1) (pairs.take k)) ∧ Below w4.heap.size w4 wr) (fun _ i _ => pairs.length - (intOf i).toNat)
            case atStart => exact ⟨0, Nat.zero_le _, rfl, rfl, Below.refl _ _⟩
            case round =>
              obtain ⟨k, hk, rfl, rfl, hbel⟩ := hrel
              have BR : Below w.heap.size w wr := B4.trans (hbel.mono B4.size)
              have br := b4.below hbel b4.lt
              have k0 : wr.cell? ⟨g, 0, none⟩ = some (.int .i64 c0) := br.cell 0
              have k1 : wr.cell? ⟨g, 1, none⟩ = some (.int .i64 c1) := br.cell 1
              have k2 : wr.cell? ⟨g, 2, none⟩ = some (.int .i64 c2) := br.cell 2
              have k3 : wr.cell? ⟨g, 3, none⟩ = some (.int .i64 c3) := br.cell 3
              have k4 : wr.cell? ⟨g, 4, none⟩ = some (.int .i64 c4) := br.cell 4
              clear br
              by_cases hlt : k < pairs.length
              · by_cases hz : allN (Key.N c0 c1) (pairs.take k) = 0
                · rw [hz]
                  obtain ⟨ad, rfl, hadb, e0, e1⟩ := keys_at (hrP.below BR) hlt
                  generalize hx : pairs[k] = x at e0 e1
                  have R1 : Reads wr wr.heap.size 2 (some (ad.add (k * 2))) 1 (keysC [x]) := reads_key (by rw [block_of_add]; have := BR.size; omega) e0 e1
                  have R2 : Reads wr.drew wr.drew.heap.size 2 (some (ad.add (k * 2))) 1 (keysC [x]) := R1
                  obtain ⟨hX0, hX1⟩ := checkN_num c0 c1 ⟨8, 0, 0, 0, 0, 0, [], [x]⟩
                  have hXe : checkN c0 c1 ⟨8, 0, 0, 0, 0, 0, [], [x]⟩ = Key.N c0 c1 x := by simp [checkN, allN, withinB, unlessN, firstNZ]; intro h; exact h.symm
                  rw [hXe] at hX0 hX1
                  clear hadb e0 e1 R1
                  have hkl : (k : Int) < pairs.length := by omega
                  have hk0 : (0 : Int) ≤ k := by omega
                  have hk1 : (k : Int) ≤ (k : Int) + 1 := by omega
                  have hk2 : (k : Int) + 1 ≤ pc := by omega
                  have hk3 : ¬ k = pc := by omega
                  have hk4 : ¬ pc = k := by omega
                  have hw : IntKind.i64.wrap ((k : Int) + 1) = (k : Int) + 1 := by
                    rw [IntKind.wrap_i64]; omega
                  go_wp2_with (fail)
                  go_region_held3 (fun w' => w'.cell? ⟨g, 0, none⟩ = some (.int .i64 c0) ∧ w'.cell? ⟨g, 1, none⟩ = some (.int .i64 c1) ∧ w'.cell? ⟨g, 2, none⟩ = some (.int .i64 c2) ∧ w'.cell? ⟨g, 3, none⟩ = some (.int .i64 c3) ∧ w'.cell? ⟨g, 4, none⟩ = some (.int .i64 c4))
                    (first | go_keep | fail)
                    (first
                      | (go_at_call 23; refine (check_calls c0 c1 c2 c3 c4 ⟨8, 0, 0, 0, 0, 0, [], [x]⟩ none _ 0 _ wr.drew Reads.none_ R2).mono ?_; rintro e w3 ⟨rfl, hb3⟩; rw [hXe]; have q0 := cell_below (w := wr.drew) hb3 k0; have q1 := cell_below (w := wr.drew) hb3 k1; have q2 := cell_below (w := wr.drew) hb3 k2; have q3 := cell_below (w := wr.drew) hb3 k3; have q4 := cell_below (w := wr.drew) hb3 k4)
                      | (go_at_call 31; refine (num_errV _ _ hX0 hX1).mono ?_; rintro e w' ⟨rfl, rfl⟩))
                  go_wp2
                  go_roundw
                  case rel =>
                    have htk : pairs.take (k + 1) = pairs.take k ++ [x] := by rw [List.take_succ_eq_append_getElem hlt, hx]
                    exact ⟨k + 1, by omega, by go_num, by rw [htk, allN_snoc _ _ _ hz], hbel.trans (Below.mono (Below.trans (Below.refl _ _).drew (hb3.mono (Nat.le_refl _))) hbel.size)⟩
                  case measure => simp [intOf]; omega
                · have hz' : (allN (Key.N c0 c1) (pairs.take k) == 0) = false := beq_eq_false_iff_ne.2 hz
                  have hkl : (k : Int) < pairs.length := by omega
                  have hall : allN (Key.N c0 c1) pairs = allN (Key.N c0 c1) (pairs.take k) := by
                    have h := allN_more (Key.N c0 c1) (pairs.take k) (pairs.drop k) hz
                    rwa [List.take_append_drop] at h
                  go_wp2
                  go_meet
                  case rel => exact ⟨by rw [hall], hbel⟩
              · obtain rfl : k = pairs.length := by omega
                rw [List.take_length]
                go_wp2
                go_meet
                case rel => exact ⟨rfl, hbel⟩

  case first =>
  go_wp2_with (fail)
  go_loopw [10, 11] (fun v i wr => ∃ k : Nat, k ≤ legs.length ∧ i = .int .i64 k ∧ v = .int .i64 (allN (Leg.N c0 c1) (legs.take k)) ∧ Below w2.heap.size w2 wr) (fun _ i _ => legs.length - (intOf i).toNat)
  case atStart => exact ⟨0, Nat.zero_le _, rfl, rfl, Below.refl _ _⟩
  case round =>
    obtain ⟨k, hk, rfl, rfl, hbel⟩ := hrel
    have BR : Below w.heap.size w wr := B2.trans (hbel.mono B2.size)
    have br := b2.below hbel b2.lt
    have k0 : wr.cell? ⟨g, 0, none⟩ = some (.int .i64 c0) := br.cell 0
    have k1 : wr.cell? ⟨g, 1, none⟩ = some (.int .i64 c1) := br.cell 1
    have k2 : wr.cell? ⟨g, 2, none⟩ = some (.int .i64 c2) := br.cell 2
    have k3 : wr.cell? ⟨g, 3, none⟩ = some (.int .i64 c3) := br.cell 3
    have k4 : wr.cell? ⟨g, 4, none⟩ = some (.int .i64 c4) := br.cell 4
    clear br
    by_cases hlt : k < legs.length
    · by_cases hz : allN (Leg.N c0 c1) (legs.take k) = 0
      · rw [hz]
        obtain ⟨ad, rfl, hadb, e0, e1, e2, e3, e4⟩ := legs_at (hrL.below BR) hlt
        generalize hx : legs[k] = x at e0 e1 e2 e3 e4
        have R1 : Reads wr wr.heap.size 5 (some (ad.add (k * 5))) 1 (legsC [x]) := reads_leg (by rw [block_of_add]; have := BR.size; omega) e0 e1 e2 e3 e4
        have R2 : Reads wr.drew wr.drew.heap.size 5 (some (ad.add (k * 5))) 1 (legsC [x]) := R1
        obtain ⟨hX0, hX1⟩ := checkN_num c0 c1 ⟨5, 0, 0, 0, 0, 1, [x], []⟩
        have hXe : checkN c0 c1 ⟨5, 0, 0, 0, 0, 1, [x], []⟩ = Leg.N c0 c1 x := by simp [checkN, allN, withinB, unlessN, firstNZ]; intro h; exact h.symm
        rw [hXe] at hX0 hX1
        clear hadb e0 e1 e2 e3 e4 R1
        have hkl : (k : Int) < legs.length := by omega
        have hk0 : (0 : Int) ≤ k := by omega
        have hk1 : (k : Int) ≤ (k : Int) + 1 := by omega
        have hk2 : (k : Int) + 1 ≤ lc := by omega
        have hk3 : ¬ k = lc := by omega
        have hk4 : ¬ lc = k := by omega
        have hw : IntKind.i64.wrap ((k : Int) + 1) = (k : Int) + 1 := by
          rw [IntKind.wrap_i64]; omega
        go_wp2_with (fail)
        go_region_held3 (fun w' => w'.cell? ⟨g, 0, none⟩ = some (.int .i64 c0) ∧ w'.cell? ⟨g, 1, none⟩ = some (.int .i64 c1) ∧ w'.cell? ⟨g, 2, none⟩ = some (.int .i64 c2) ∧ w'.cell? ⟨g, 3, none⟩ = some (.int .i64 c3) ∧ w'.cell? ⟨g, 4, none⟩ = some (.int .i64 c4))
          (first | go_keep | fail)
          (first
            | (go_at_call 23; refine (check_calls c0 c1 c2 c3 c4 ⟨5, 0, 0, 0, 0, 1, [x], []⟩ _ none _ 0 wr.drew R2 Reads.none_).mono ?_; rintro e w3 ⟨rfl, hb3⟩; rw [hXe]; have q0 := cell_below (w := wr.drew) hb3 k0; have q1 := cell_below (w := wr.drew) hb3 k1; have q2 := cell_below (w := wr.drew) hb3 k2; have q3 := cell_below (w := wr.drew) hb3 k3; have q4 := cell_below (w := wr.drew) hb3 k4)
            | (go_at_call 31; refine (num_errV _ _ hX0 hX1).mono ?_; rintro e w' ⟨rfl, rfl⟩))
        go_wp2
        go_roundw
        case rel =>
          have htk : legs.take (k + 1) = legs.take k ++ [x] := by rw [List.take_succ_eq_append_getElem hlt, hx]
          exact ⟨k + 1, by omega, by go_num, by rw [htk, allN_snoc _ _ _ hz], hbel.trans (Below.mono (Below.trans (Below.refl _ _).drew (hb3.mono (Nat.le_refl _))) hbel.size)⟩
        case measure => simp [intOf]; omega
      · have hz' : (allN (Leg.N c0 c1) (legs.take k) == 0) = false := beq_eq_false_iff_ne.2 hz
        have hkl : (k : Int) < legs.length := by omega
        have hall : allN (Leg.N c0 c1) legs = allN (Leg.N c0 c1) (legs.take k) := by
          have h := allN_more (Leg.N c0 c1) (legs.take k) (legs.drop k) hz
          rwa [List.take_append_drop] at h
        go_wp2
        go_meet
        case rel => exact ⟨by rw [hall], hbel⟩
    · obtain rfl : k = legs.length := by omega
      rw [List.take_length]
      go_wp2
      go_meet
      case rel => exact ⟨rfl, hbel⟩

theorem lawParts_calls (c0 c1 c2 c3 c4 id : Int) (legs : List Leg) (pairs : List Key) (LA PA : Option Addr) (lc pc : Nat) (w : World) (hrL : Reads w w.heap.size 5 LA legs.length (legsC legs)) (hrP : Reads w w.heap.size 2 PA pairs.length (keysC pairs))
    (hnL : legs.length * 40 ≤ 140737488351232) (hnP : pairs.length * 16 ≤ 140737488351232) (hcL : legs.length ≤ lc) (hcP : pairs.length ≤ pc) (hG : HG w) :
    Calls Tryd.prog 8 #[.agg #[.int .i64 c0, .int .i64 c1, .int .i64 c2, .int .i64 c3, .int .i64 c4], .int .i64 id, .slice LA legs.length lc, .slice PA pairs.length pc] w fun e w' => e = .returned (.bool true) ∧ Below w.heap.size w w' := by
  by_cases h : id < 1
  · exact parts_lo c0 c1 c2 c3 c4 id h legs pairs LA PA lc pc w hrL hrP hnL hnP hcL hcP hG
  · by_cases h2 : 1099511627776 < id
    · exact parts_hi c0 c1 c2 c3 c4 id h h2 legs pairs LA PA lc pc w hrL hrP hnL hnP hcL hcP hG
    · exact parts_mid c0 c1 c2 c3 c4 id h h2 legs pairs LA PA lc pc w hrL hrP hnL hnP hcL hcP hG
end Go.Proofs.YtmdkcggmnejkoaaDoor
