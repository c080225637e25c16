/- The walk of the law GuardCheck. -/
import Derived.Test.YtmdkcggmnejkoaaDoorRCheck
import Derived.Test.YtmdkcggmnejkoaaDoorLegsKit
import Derived.Test.YtmdkcggmnejkoaaDoorKeysKit
namespace Go.Proofs.YtmdkcggmnejkoaaDoor
set_option linter.unusedSimpArgs false
set_option linter.unusedVariables false
open Go.RowKit

theorem Reads.pre {α : Type} {enc : α → List Value} {s : Nat} (hs : ∀ x, (enc x).length = s) {w : World} {B : Nat} {A : Option Addr} {xs ys : List α} {n : Nat} (h : Reads w B s A n ((xs ++ ys).flatMap enc)) (hn : n = xs.length + ys.length) : Reads w B s A xs.length (xs.flatMap enc) := by
  refine ⟨flat_length hs xs, fun h0 => ?_⟩
  obtain ⟨ad, e, hb, hc⟩ := h.2 (by omega)
  refine ⟨ad, e, hb, fun j u hu => hc j u ?_⟩
  rw [List.flatMap_append, List.getElem?_append_left (List.getElem?_eq_some_iff.1 hu).1]
  exact hu

set_option maxRecDepth 100000 in
set_option maxHeartbeats 4000000 in
theorem lawCheck_calls (c0 c1 c2 c3 c4 : Int) (o : Op) (LA PA : Option Addr) (lc pc : Nat) (w : World) (hrL : Reads w w.heap.size 5 LA o.legs.length (legsC o.legs)) (hrP : Reads w w.heap.size 2 PA o.pairs.length (keysC o.pairs))
    (hnL : o.legs.length * 40 ≤ 140737488351232) (hnP : o.pairs.length * 16 ≤ 140737488351232) (hG : HG w) :
    Calls Tryd.prog 5 #[.agg #[.int .i64 c0, .int .i64 c1, .int .i64 c2, .int .i64 c3, .int .i64 c4], .agg #[.int .i64 o.code, .int .i64 o.acc, .int .i64 o.ast, .int .i64 o.qty, .int .i64 o.name, .int .i64 o.id, .slice LA o.legs.length lc, .slice PA o.pairs.length pc]] w fun e w' => e = .returned (.bool true) ∧ Below w.heap.size w w' := by
  have hNum := checkN_num c0 c1 o
  obtain ⟨hN0, hN1⟩ := hNum
  go_enter Tryd.func5, Tryd.ntmps5
  go_wp2_with (fail)
  obtain ⟨W0, hW0⟩ : ∃ W0, (w.alloc (.cells #[.int .i64 c0, .int .i64 c1, .int .i64 c2, .int .i64 c3, .int .i64 c4] 23)).alloc (.cells #[.int .i64 o.code, .int .i64 o.acc, .int .i64 o.ast, .int .i64 o.qty, .int .i64 o.name, .int .i64 o.id, .slice LA o.legs.length lc, .slice PA o.pairs.length pc] 33) = W0 := ⟨_, rfl⟩
  have b0 : Blk W0 w.heap.size 23 #[.int .i64 c0, .int .i64 c1, .int .i64 c2, .int .i64 c3, .int .i64 c4] := hW0 ▸ (Blk.new _ _ _).alloc _
  have b1 : Blk W0 (w.heap.size + 1) 33 #[.int .i64 o.code, .int .i64 o.acc, .int .i64 o.ast, .int .i64 o.qty, .int .i64 o.name, .int .i64 o.id, .slice LA o.legs.length lc, .slice PA o.pairs.length pc] := by
    rw [← hW0, show w.heap.size + 1 = (w.alloc (.cells #[.int .i64 c0, .int .i64 c1, .int .i64 c2, .int .i64 c3, .int .i64 c4] 23)).heap.size by simp]
    exact Blk.new _ _ _
  have hb0 : Below w.heap.size w W0 := hW0 ▸ ((Below.refl _ _).alloc (Nat.le_refl _) _).alloc (by simp) _
  have hs0 : W0.heap.size = w.heap.size + 1 + 1 := by rw [← hW0]; simp
  have HS := Lib.hid hs0
  clear hs0
  rw [hW0]
  clear hW0
  refine (rcheck_calls _ _ _ _ _ o _ _ _ _ _ ((hrL.below hb0).more hb0.size) ((hrP.below hb0).more hb0.size)).mono ?_
  rintro e w1 ⟨rfl, hb1⟩
  have bw1 := hb0.trans (hb1.mono hb0.size)
  have b0' := b0.below hb1 b0.lt
  have b1' := b1.below hb1 b1.lt
  have l0 := (b1'.cell 0).trans (rfl : _ = some (Value.int .i64 o.code))
  have l1 := (b1'.cell 1).trans (rfl : _ = some (Value.int .i64 o.acc))
  have l2 := (b1'.cell 2).trans (rfl : _ = some (Value.int .i64 o.ast))
  have l3 := (b1'.cell 3).trans (rfl : _ = some (Value.int .i64 o.qty))
  have l4 := (b1'.cell 4).trans (rfl : _ = some (Value.int .i64 o.name))
  have l5 := (b1'.cell 5).trans (rfl : _ = some (Value.int .i64 o.id))
  have l6 := (b1'.cell 6).trans (rfl : _ = some (Value.slice LA o.legs.length lc))
  have l7 := (b1'.cell 7).trans (rfl : _ = some (Value.slice PA o.pairs.length pc))
  have l6' := fun ob => cell_alloc l6 ob
  clear b0 b1
  go_wp2_with (fail)
  obtain ⟨W2, hW2⟩ : ∃ W2, w1.alloc (.cells #[.int .i64 o.code, .int .i64 o.acc, .int .i64 o.ast, .int .i64 o.qty, .int .i64 o.name, .int .i64 o.id, .slice LA o.legs.length lc, .slice PA o.pairs.length pc] 33) = W2 := ⟨_, rfl⟩
  have bx : Blk W2 w1.heap.size 33 #[.int .i64 o.code, .int .i64 o.acc, .int .i64 o.ast, .int .i64 o.qty, .int .i64 o.name, .int .i64 o.id, .slice LA o.legs.length lc, .slice PA o.pairs.length pc] := hW2 ▸ Blk.new _ _ _
  have hb2 : Below w1.heap.size w1 W2 := hW2 ▸ (Below.refl _ _).alloc (Nat.le_refl _) _
  have hz2 : W2.heap.size = w1.heap.size + 1 := by rw [← hW2]; simp
  have bw2 := bw1.trans (hb2.mono bw1.size)
  have c0' := b0'.below hb2 b0'.lt
  have c1' := b1'.below hb2 b1'.lt
  rw [hW2]
  clear hW2 b0' b1' l6' l0 l1 l2 l3 l4 l5 l6 l7
  refine (lentLegs_calls o.legs _ _ _ _ (hrL.below bw2) bw2.size hnL).mono ?_
  rintro e w3 ⟨g1, q1, rfl, hq1, hown1, hb3⟩
  have bx3 := bx.below hb3 bx.lt
  have d0 := c0'.below hb3 c0'.lt
  have d1 := c1'.below hb3 c1'.lt
  have bw3 := bw2.trans (hb3.mono bw2.size)
  have hcx : w3.cell? ⟨w1.heap.size, 6, none⟩ = some (.slice LA o.legs.length lc) := bx3.cell 6
  have hfx : w3.frozen? ⟨w1.heap.size, 6, none⟩ = false := bx3.frozen 6
  have hlt1 : w1.heap.size < w3.heap.size := bx3.lt
  have hne1 : w1.heap.size < g1 := by
    have h1 := own_base hown1 (k := g1) (by simp [Value.ownBlock])
    omega
  have hl7 : (w3.setCell ⟨w1.heap.size, 6, none⟩ (.slice (some ⟨g1, 0, none⟩) o.legs.length q1)).cell? ⟨w.heap.size + 1, 7, none⟩ = some (.slice PA o.pairs.length pc) := (d1.far (p := ⟨w1.heap.size, 6, none⟩) (by have := HS.out; have := hb1.size; simp; omega) _).cell 7
  clear bx c0' c1'
  go_wp2_with (fail)
  obtain ⟨W4, hW4⟩ : ∃ W4, w3.setCell ⟨w1.heap.size, 6, none⟩ (.slice (some ⟨g1, 0, none⟩) o.legs.length q1) = W4 := ⟨_, rfl⟩
  have bx4 : Blk W4 w1.heap.size 33 #[.int .i64 o.code, .int .i64 o.acc, .int .i64 o.ast, .int .i64 o.qty, .int .i64 o.name, .int .i64 o.id, .slice (some ⟨g1, 0, none⟩) o.legs.length q1, .slice PA o.pairs.length pc] := hW4 ▸ bx3.set_ 6 _
  have e0 : Blk W4 w.heap.size 23 #[.int .i64 c0, .int .i64 c1, .int .i64 c2, .int .i64 c3, .int .i64 c4] := hW4 ▸ d0.far (by have := HS.out; have := hb1.size; simp; omega) _
  have e1 : Blk W4 (w.heap.size + 1) 33 #[.int .i64 o.code, .int .i64 o.acc, .int .i64 o.ast, .int .i64 o.qty, .int .i64 o.name, .int .i64 o.id, .slice LA o.legs.length lc, .slice PA o.pairs.length pc] := hW4 ▸ d1.far (by have := HS.out; have := hb1.size; simp; omega) _
  have hown1' : W4.ownsRow W2.heap.size 45 5 (.slice (some ⟨g1, 0, none⟩) (o.legs.length + 16) q1) (o.legs.length + 16) (legsC (o.legs ++ markLegss)) := hW4 ▸ ownsRow_setCell_below hown1 (by simp; omega) _
  have bw4 : Below w.heap.size w W4 := hW4 ▸ bw3.setCell (p := ⟨w1.heap.size, 6, none⟩) (by have := bw1.size; simpa using this) _
  have hz4 : W4.heap.size = w3.heap.size := by rw [← hW4]; simp [World.setCell]
  rw [hW4]
  clear hW4 bx3 d0 d1 hown1 hcx hfx hl7
  refine (lentKeys_calls o.pairs _ _ _ _ (hrP.below bw4) bw4.size hnP).mono ?_
  rintro e w5 ⟨g2, q2, rfl, hq2, hown2, hb5⟩
  have bx5 := bx4.below hb5 bx4.lt
  have f0 := e0.below hb5 e0.lt
  have f1 := e1.below hb5 e1.lt
  have hown1'' := own_below hown1' hb5
  have bw5 := bw4.trans (hb5.mono bw4.size)
  have hcx : w5.cell? ⟨w1.heap.size, 7, none⟩ = some (.slice PA o.pairs.length pc) := bx5.cell 7
  have hfx : w5.frozen? ⟨w1.heap.size, 7, none⟩ = false := bx5.frozen 7
  have hne2 : w1.heap.size < g2 := by
    have h1 := own_base hown2 (k := g2) (by simp [Value.ownBlock])
    omega
  obtain ⟨W6, hW6⟩ : ∃ W6, w5.setCell ⟨w1.heap.size, 7, none⟩ (.slice (some ⟨g2, 0, none⟩) o.pairs.length q2) = W6 := ⟨_, rfl⟩
  have bx6 : Blk W6 w1.heap.size 33 #[.int .i64 o.code, .int .i64 o.acc, .int .i64 o.ast, .int .i64 o.qty, .int .i64 o.name, .int .i64 o.id, .slice (some ⟨g1, 0, none⟩) o.legs.length q1, .slice (some ⟨g2, 0, none⟩) o.pairs.length q2] := hW6 ▸ bx5.set_ 7 _
  have k0 : Blk W6 w.heap.size 23 #[.int .i64 c0, .int .i64 c1, .int .i64 c2, .int .i64 c3, .int .i64 c4] := hW6 ▸ f0.far (by have := HS.out; have := hb1.size; simp; omega) _
  have k1 : Blk W6 (w.heap.size + 1) 33 #[.int .i64 o.code, .int .i64 o.acc, .int .i64 o.ast, .int .i64 o.qty, .int .i64 o.name, .int .i64 o.id, .slice LA o.legs.length lc, .slice PA o.pairs.length pc] := hW6 ▸ f1.far (by have := HS.out; have := hb1.size; simp; omega) _
  have ho1 : W6.ownsRow W2.heap.size 45 5 (.slice (some ⟨g1, 0, none⟩) (o.legs.length + 16) q1) (o.legs.length + 16) (legsC (o.legs ++ markLegss)) := hW6 ▸ ownsRow_setCell_below hown1'' (by simp; omega) _
  have ho2 : W6.ownsRow W4.heap.size 47 2 (.slice (some ⟨g2, 0, none⟩) (o.pairs.length + 16) q2) (o.pairs.length + 16) (keysC (o.pairs ++ markKeyss)) := hW6 ▸ ownsRow_setCell_below hown2 (by simp; omega) _
  have bw6 : Below w.heap.size w W6 := hW6 ▸ bw5.setCell (p := ⟨w1.heap.size, 7, none⟩) (by have := bw1.size; simpa using this) _
  have BW := Lib.hid bw6
  have m0 := (bx6.cell 0).trans (rfl : _ = some (Value.int .i64 o.code))
  have m1 := (bx6.cell 1).trans (rfl : _ = some (Value.int .i64 o.acc))
  have m2 := (bx6.cell 2).trans (rfl : _ = some (Value.int .i64 o.ast))
  have m3 := (bx6.cell 3).trans (rfl : _ = some (Value.int .i64 o.qty))
  have m4 := (bx6.cell 4).trans (rfl : _ = some (Value.int .i64 o.name))
  have m5 := (bx6.cell 5).trans (rfl : _ = some (Value.int .i64 o.id))
  have m6 := (bx6.cell 6).trans (rfl : _ = some (Value.slice (some ⟨g1, 0, none⟩) o.legs.length q1))
  have m7 := (bx6.cell 7).trans (rfl : _ = some (Value.slice (some ⟨g2, 0, none⟩) o.pairs.length q2))
  have n0 := (k0.cell 0).trans (rfl : _ = some (Value.int .i64 c0))
  have n1 := (k0.cell 1).trans (rfl : _ = some (Value.int .i64 c1))
  have n2 := (k0.cell 2).trans (rfl : _ = some (Value.int .i64 c2))
  have n3 := (k0.cell 3).trans (rfl : _ = some (Value.int .i64 c3))
  have n4 := (k0.cell 4).trans (rfl : _ = some (Value.int .i64 c4))
  have r1 := Reads.of_own ho1
  have r2 := Reads.of_own ho2
  have r1p := Reads.pre Leg.len r1 (by rw [markLegss_len])
  have r2p := Reads.pre Key.len r2 (by rw [markKeyss_len])
  have hc7 : (w5.setCell ⟨w1.heap.size, 7, none⟩ (.slice (some ⟨g2, 0, none⟩) o.pairs.length q2)) = W6 := hW6
  have hg6 : HG W6 := hG.below bw6
  have HK1 := Lib.hid k1
  clear bx4 e0 e1 hown1' bx5 f0 f1 hown1'' hown2 k0 k1 bx6 hW6 ho1 ho2 bw3 bw4 bw5 bw2 hb5 hb3 hb2 hz2 hz4 hlt1 hne1 hne2
  go_wp2_with (fail)
  refine (check_calls _ _ _ _ _ o _ _ _ _ _ r1p r2p).mono ?_
  rintro e w7 ⟨rfl, hb7⟩
  clear m0 m1 m2 m3 m4 m5 m6 m7 n0 n1 n2 n3 n4 hc7 hcx hfx r1p r2p hb0 hb1 bw1
  go_wp2_with (fail)
  refine (plain_errV _ _ _ hN0 hN1 (hg6.below hb7)).mono ?_
  rintro e w8 ⟨rfl, hb8⟩
  rw [beq_self_eq_true]
  have i8 : Below W6.heap.size W6 w8 := hb7.trans (hb8.mono hb7.size)
  have bw8 := BW.out.trans (i8.mono BW.out.size)
  have k8 := HK1.out.below i8 HK1.out.lt
  have l6 := (k8.cell 6).trans (rfl : _ = some (Value.slice LA o.legs.length lc))
  have s1 := (r1.below i8).more i8.size
  have s2 := (r2.below i8).more i8.size
  have K8 := Lib.hid k8
  have I8 := Lib.hid i8
  have B8 := Lib.hid bw8
  clear k8 hg6 HK1 r1 r2 hb7 hb8 bw6 i8 bw8
  go_wp2_with (fail)
  refine (keptLegs_calls o.legs g1 _ _ _ w8.heap.size _ s1 hq1 ((hrL.below B8.out).more B8.out.size) (Nat.le_refl _) (by omega)).mono ?_
  rintro e w9 ⟨rfl, hb9⟩
  have k9 := K8.out.below hb9 K8.out.lt
  have l7 := (k9.cell 7).trans (rfl : _ = some (Value.slice PA o.pairs.length pc))
  have bw9 := B8.out.trans (hb9.mono B8.out.size)
  have t2 := (s2.below hb9).more hb9.size
  clear k9 K8 s1 s2 l6
  go_wp2_with (fail)
  refine (keptKeys_calls o.pairs g2 _ _ _ w9.heap.size _ t2 hq2 ((hrP.below bw9).more bw9.size) (Nat.le_refl _) (by omega)).mono ?_
  rintro e w10 ⟨rfl, hb10⟩
  have B10 := bw9.trans (hb10.mono bw9.size)
  clear t2 l7 bw9 hb9
  go_wp2
  go_ret
  exact ⟨rfl, B10⟩
end Go.Proofs.YtmdkcggmnejkoaaDoor
