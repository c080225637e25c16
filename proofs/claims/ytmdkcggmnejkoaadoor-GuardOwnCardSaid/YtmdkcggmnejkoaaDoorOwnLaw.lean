/- Law GuardOwn. -/
import Derived.Test.YtmdkcggmnejkoaaDoorOwn
import Derived.Test.YtmdkcggmnejkoaaDoorCheckLaw
namespace Go.Proofs.YtmdkcggmnejkoaaDoor
open Go.RowKit

theorem checkN_own (c0 c1 : Int) (o : Op) : checkN c0 c1 (ownM o) = checkN c0 c1 o := by
  unfold ownM
  by_cases h1 : o.code = 1 ∨ o.code = 2
  · rw [if_pos h1]; simp only [checkN, if_pos h1]
  rw [if_neg h1]
  by_cases h3 : o.code = 3 ∨ o.code = 4
  · rw [if_pos h3]; simp only [checkN, if_neg h1, if_pos h3]
  rw [if_neg h3]
  by_cases h5 : o.code = 5
  · rw [if_pos h5]; simp only [checkN, if_neg h1, if_neg h3, if_pos h5]
  rw [if_neg h5]
  by_cases h6 : o.code = 6 ∨ o.code = 7
  · rw [if_pos h6]; simp only [checkN, if_neg h1, if_neg h3, if_neg h5, if_pos h6]
  rw [if_neg h6]
  by_cases h8 : o.code = 8
  · rw [if_pos h8]; simp only [checkN, if_neg h1, if_neg h3, if_neg h5, if_neg h6, if_pos h8]
  · rw [if_neg h8]; simp only [checkN, if_neg h1, if_neg h3, if_neg h5, if_neg h6, if_neg h8]

theorem firstNZ_z (l : List Int) : firstNZ l = 0 ↔ ∀ x ∈ l, x = 0 := by
  induction l with
  | nil => simp [firstNZ]
  | cons a r ih =>
    by_cases h : a = 0
    · subst h; rw [firstNZ_zero, ih]; simp
    · rw [firstNZ_pos h]; simp [h]
theorem unlessN_z {b : Bool} {e : Int} (he : e ≠ 0) : unlessN b e = 0 ↔ b = true := by
  cases b <;> simp [unlessN, he]
theorem belowB_le {n c d : Int} (h : c ≤ d) (hb : belowB n c = true) : belowB n d = true := by
  simp only [belowB, Bool.and_eq_true, decide_eq_true_eq] at hb ⊢
  omega
theorem below_le {n c d e : Int} (h : c ≤ d) (he : e ≠ 0) (hb : unlessN (belowB n c) e = 0) : unlessN (belowB n d) e = 0 := (unlessN_z he).2 (belowB_le h ((unlessN_z he).1 hb))
theorem allN_mono {α : Type} {f g : α → Int} (h : ∀ x, f x = 0 → g x = 0) (l : List α) (hl : allN f l = 0) : allN g l = 0 := by
  induction l with
  | nil => rfl
  | cons x r ih =>
    unfold allN at hl ⊢
    by_cases hx : f x = 0
    · rw [if_pos hx] at hl; rw [if_pos (h x hx)]; exact ih hl
    · rw [if_neg hx] at hl; exact absurd hl hx
theorem checkN_mono {c0 c1 a b : Int} (h0 : c0 ≤ a) (h1 : c1 ≤ b) (o : Op) (h : checkN c0 c1 o = 0) : checkN a b o = 0 := by
  have e14 : ∀ n, unlessN (belowB n c0) 14 = 0 → unlessN (belowB n a) 14 = 0 := fun n => below_le h0 (by decide)
  have e15 : ∀ n, unlessN (belowB n c1) 15 = 0 → unlessN (belowB n b) 15 = 0 := fun n => below_le h1 (by decide)
  have hl : ∀ x, Leg.N c0 c1 x = 0 → Leg.N a b x = 0 := fun x hx => by
    simp only [Leg.N, legN, firstNZ_z, List.mem_cons, List.not_mem_nil, or_false, forall_eq_or_imp, forall_eq] at hx ⊢
    exact ⟨e14 _ hx.1, e14 _ hx.2.1, hx.2.2.1, e15 _ hx.2.2.2.1, hx.2.2.2.2⟩
  have hk : ∀ x, Key.N c0 c1 x = 0 → Key.N a b x = 0 := fun x hx => by
    simp only [Key.N, firstNZ_z, List.mem_cons, List.not_mem_nil, or_false, forall_eq_or_imp, forall_eq] at hx ⊢
    exact ⟨e14 _ hx.1, e15 _ hx.2⟩
  unfold checkN at h ⊢
  by_cases c1' : o.code = 1 ∨ o.code = 2
  · rw [if_pos c1'] at h ⊢
    simp only [firstNZ_z, List.mem_cons, List.not_mem_nil, or_false, forall_eq_or_imp, forall_eq] at h ⊢
    exact ⟨e14 _ h.1, e15 _ h.2.1, h.2.2⟩
  rw [if_neg c1'] at h ⊢
  by_cases c3 : o.code = 3 ∨ o.code = 4
  · rw [if_pos c3] at h ⊢
    simp only [firstNZ_z, List.mem_cons, List.not_mem_nil, or_false, forall_eq_or_imp, forall_eq] at h ⊢
    exact ⟨e14 _ h.1, e15 _ h.2.1, h.2.2⟩
  rw [if_neg c3] at h ⊢
  by_cases c5 : o.code = 5
  · rw [if_pos c5] at h ⊢
    split at h
    · rename_i hh; rw [if_pos hh]; exact allN_mono hl _ h
    · rename_i hh; exact absurd h hh
  rw [if_neg c5] at h ⊢
  by_cases c6 : o.code = 6 ∨ o.code = 7
  · rw [if_pos c6] at h ⊢; exact h
  rw [if_neg c6] at h ⊢
  by_cases c8 : o.code = 8
  · rw [if_pos c8] at h ⊢
    split at h
    · rename_i hh; rw [if_pos hh]; exact allN_mono hk _ h
    · cases h
  · rw [if_neg c8] at h; cases h

set_option maxRecDepth 100000 in
set_option maxHeartbeats 8000000 in
theorem lawOwn_calls (c0 c1 c2 c3 c4 d0 d1 d2 d3 d4 : Int) (o : Op) (LA PA : Option Addr) (lc pc : Nat) (w : World) (hrL : Reads w w.heap.size 5 LA o.legs.length (legsC o.legs)) (hrP : Reads w w.heap.size 2 PA o.pairs.length (keysC o.pairs))
    (hnL : o.legs.length * 40 ≤ 140737488351232) (hnP : o.pairs.length * 16 ≤ 140737488351232) (hG : HG w) :
    Calls Tryd.prog 7 #[.agg #[.int .i64 c0, .int .i64 c1, .int .i64 c2, .int .i64 c3, .int .i64 c4], .agg #[.int .i64 d0, .int .i64 d1, .int .i64 d2, .int .i64 d3, .int .i64 d4], .agg #[.int .i64 o.code, .int .i64 o.acc, .int .i64 o.ast, .int .i64 o.qty, .int .i64 o.name, .int .i64 o.id, .slice LA o.legs.length lc, .slice PA o.pairs.length pc]] w fun e w' => e = .returned (.bool true) ∧ Below w.heap.size w w' := by
  obtain ⟨hN0, hN1⟩ := checkN_num c0 c1 o
  obtain ⟨g, hg⟩ : ∃ g, w.heap.size = g := ⟨_, rfl⟩
  obtain ⟨W0, hW0⟩ : ∃ W0, ((w.alloc (.cells #[.int .i64 c0, .int .i64 c1, .int .i64 c2, .int .i64 c3, .int .i64 c4] 23)).alloc (.cells #[.int .i64 d0, .int .i64 d1, .int .i64 d2, .int .i64 d3, .int .i64 d4] 23)).alloc (.cells #[.int .i64 o.code, .int .i64 o.acc, .int .i64 o.ast, .int .i64 o.qty, .int .i64 o.name, .int .i64 o.id, .slice LA o.legs.length lc, .slice PA o.pairs.length pc] 33) = W0 := ⟨_, rfl⟩
  have b0 : Blk W0 g 23 #[.int .i64 c0, .int .i64 c1, .int .i64 c2, .int .i64 c3, .int .i64 c4] := by rw [← hW0, ← hg]; exact ((Blk.new _ _ _).alloc _).alloc _
  have b1 : Blk W0 (g + 1) 23 #[.int .i64 d0, .int .i64 d1, .int .i64 d2, .int .i64 d3, .int .i64 d4] := by
    rw [← hW0, ← hg]
    have h := (Blk.new (w.alloc (.cells #[.int .i64 c0, .int .i64 c1, .int .i64 c2, .int .i64 c3, .int .i64 c4] 23)) 23 #[.int .i64 d0, .int .i64 d1, .int .i64 d2, .int .i64 d3, .int .i64 d4]).alloc (.cells #[.int .i64 o.code, .int .i64 o.acc, .int .i64 o.ast, .int .i64 o.qty, .int .i64 o.name, .int .i64 o.id, .slice LA o.legs.length lc, .slice PA o.pairs.length pc] 33)
    simpa using h
  have b2 : Blk W0 (g + 2) 33 #[.int .i64 o.code, .int .i64 o.acc, .int .i64 o.ast, .int .i64 o.qty, .int .i64 o.name, .int .i64 o.id, .slice LA o.legs.length lc, .slice PA o.pairs.length pc] := by
    rw [← hW0, ← hg]
    have h := Blk.new ((w.alloc (.cells #[.int .i64 c0, .int .i64 c1, .int .i64 c2, .int .i64 c3, .int .i64 c4] 23)).alloc (.cells #[.int .i64 d0, .int .i64 d1, .int .i64 d2, .int .i64 d3, .int .i64 d4] 23)) 33 #[.int .i64 o.code, .int .i64 o.acc, .int .i64 o.ast, .int .i64 o.qty, .int .i64 o.name, .int .i64 o.id, .slice LA o.legs.length lc, .slice PA o.pairs.length pc]
    simpa using h
  have hb0 : Below w.heap.size w W0 := by rw [← hW0]; exact (((Below.refl _ _).alloc (Nat.le_refl _) _).alloc (by simp) _).alloc (by simp; omega) _
  have hrL0 : Reads W0 W0.heap.size 5 LA o.legs.length (legsC o.legs) := (hrL.below hb0).more hb0.size
  have hrP0 : Reads W0 W0.heap.size 2 PA o.pairs.length (keysC o.pairs) := (hrP.below hb0).more hb0.size
  have k0 : W0.cell? ⟨g, 0, none⟩ = some (.int .i64 c0) := b0.cell 0
  have k1 : W0.cell? ⟨g, 1, none⟩ = some (.int .i64 c1) := b0.cell 1
  have k2 : W0.cell? ⟨g, 2, none⟩ = some (.int .i64 c2) := b0.cell 2
  have k3 : W0.cell? ⟨g, 3, none⟩ = some (.int .i64 c3) := b0.cell 3
  have k4 : W0.cell? ⟨g, 4, none⟩ = some (.int .i64 c4) := b0.cell 4
  have m0 : W0.cell? ⟨g + 1, 0, none⟩ = some (.int .i64 d0) := b1.cell 0
  have m1 : W0.cell? ⟨g + 1, 1, none⟩ = some (.int .i64 d1) := b1.cell 1
  have m2 : W0.cell? ⟨g + 1, 2, none⟩ = some (.int .i64 d2) := b1.cell 2
  have m3 : W0.cell? ⟨g + 1, 3, none⟩ = some (.int .i64 d3) := b1.cell 3
  have m4 : W0.cell? ⟨g + 1, 4, none⟩ = some (.int .i64 d4) := b1.cell 4
  have l0 : W0.cell? ⟨g + 2, 0, none⟩ = some (.int .i64 o.code) := b2.cell 0
  have l1 : W0.cell? ⟨g + 2, 1, none⟩ = some (.int .i64 o.acc) := b2.cell 1
  have l2 : W0.cell? ⟨g + 2, 2, none⟩ = some (.int .i64 o.ast) := b2.cell 2
  have l3 : W0.cell? ⟨g + 2, 3, none⟩ = some (.int .i64 o.qty) := b2.cell 3
  have l4 : W0.cell? ⟨g + 2, 4, none⟩ = some (.int .i64 o.name) := b2.cell 4
  have l5 : W0.cell? ⟨g + 2, 5, none⟩ = some (.int .i64 o.id) := b2.cell 5
  have l6 : W0.cell? ⟨g + 2, 6, none⟩ = some (.slice LA o.legs.length lc) := b2.cell 6
  have l7 : W0.cell? ⟨g + 2, 7, none⟩ = some (.slice PA o.pairs.length pc) := b2.cell 7
  go_enter Tryd.func7, Tryd.ntmps7
  go_wp2_with (fail)
  refine (check_calls c0 c1 c2 c3 c4 o LA PA lc pc W0 hrL0 hrP0).mono ?_
  rintro e w1 ⟨rfl, hb1⟩
  have B1 : Below w.heap.size w w1 := hb0.trans (hb1.mono hb0.size)
  have n_k0 := cell_below hb1 k0
  have n_k1 := cell_below hb1 k1
  have n_k2 := cell_below hb1 k2
  have n_k3 := cell_below hb1 k3
  have n_k4 := cell_below hb1 k4
  have n_m0 := cell_below hb1 m0
  have n_m1 := cell_below hb1 m1
  have n_m2 := cell_below hb1 m2
  have n_m3 := cell_below hb1 m3
  have n_m4 := cell_below hb1 m4
  have n_l0 := cell_below hb1 l0
  have n_l1 := cell_below hb1 l1
  have n_l2 := cell_below hb1 l2
  have n_l3 := cell_below hb1 l3
  have n_l4 := cell_below hb1 l4
  have n_l5 := cell_below hb1 l5
  have n_l6 := cell_below hb1 l6
  have n_l7 := cell_below hb1 l7
  clear k0 k1 k2 k3 k4 m0 m1 m2 m3 m4 l0 l1 l2 l3 l4 l5 l6 l7
  have k0 := n_k0
  have k1 := n_k1
  have k2 := n_k2
  have k3 := n_k3
  have k4 := n_k4
  have m0 := n_m0
  have m1 := n_m1
  have m2 := n_m2
  have m3 := n_m3
  have m4 := n_m4
  have l0 := n_l0
  have l1 := n_l1
  have l2 := n_l2
  have l3 := n_l3
  have l4 := n_l4
  have l5 := n_l5
  have l6 := n_l6
  have l7 := n_l7
  clear n_k0 n_k1 n_k2 n_k3 n_k4 n_m0 n_m1 n_m2 n_m3 n_m4 n_l0 n_l1 n_l2 n_l3 n_l4 n_l5 n_l6 n_l7
  clear b0 b1 b2 hW0 hrL0 hrP0 hb1 hb0
  generalize hN : checkN c0 c1 o = N at hN0 hN1
  have B2 : Below w.heap.size w w1.drew := B1.drew
  have hrL2 : Reads w1.drew w1.drew.heap.size 5 LA o.legs.length (legsC o.legs) := (hrL.below B2).more B2.size
  have hrP2 : Reads w1.drew w1.drew.heap.size 2 PA o.pairs.length (keysC o.pairs) := (hrP.below B2).more B2.size
  go_wp2_with (go_at_call 31; refine (num_errV N _ hN0 hN1).mono ?_; rintro e w' ⟨rfl, rfl⟩)
  go_region_held3 (fun w' => w'.cell? ⟨g, 0, none⟩ = some (.int .i64 c0) ∧ w'.cell? ⟨g, 1, none⟩ = some (.int .i64 c1) ∧ w'.cell? ⟨g, 2, none⟩ = some (.int .i64 c2) ∧ w'.cell? ⟨g, 3, none⟩ = some (.int .i64 c3) ∧ w'.cell? ⟨g, 4, none⟩ = some (.int .i64 c4) ∧ w'.cell? ⟨g + 1, 0, none⟩ = some (.int .i64 d0) ∧ w'.cell? ⟨g + 1, 1, none⟩ = some (.int .i64 d1) ∧ w'.cell? ⟨g + 1, 2, none⟩ = some (.int .i64 d2) ∧ w'.cell? ⟨g + 1, 3, none⟩ = some (.int .i64 d3) ∧ w'.cell? ⟨g + 1, 4, none⟩ = some (.int .i64 d4) ∧ w'.cell? ⟨g + 2, 0, none⟩ = some (.int .i64 o.code) ∧ w'.cell? ⟨g + 2, 1, none⟩ = some (.int .i64 o.acc) ∧ w'.cell? ⟨g + 2, 2, none⟩ = some (.int .i64 o.ast) ∧ w'.cell? ⟨g + 2, 3, none⟩ = some (.int .i64 o.qty) ∧ w'.cell? ⟨g + 2, 4, none⟩ = some (.int .i64 o.name) ∧ w'.cell? ⟨g + 2, 5, none⟩ = some (.int .i64 o.id) ∧ w'.cell? ⟨g + 2, 6, none⟩ = some (.slice LA o.legs.length lc) ∧ w'.cell? ⟨g + 2, 7, none⟩ = some (.slice PA o.pairs.length pc))
    (first | go_keep | fail)
    (first
      | (go_at_call 32; refine (own_calls o LA PA lc pc w1.drew hrL2 hrP2 hnL hnP).mono ?_; rintro e w2 ⟨L, P, rfl, hL, hP, hb2⟩; obtain ⟨XL, xl, rfl⟩ := own_slice_n hL; obtain ⟨XP, xp, rfl⟩ := own_slice_n hP; simp only [opCs]; have q_k0 : w2.cell? ⟨g, 0, none⟩ = some (.int .i64 c0) := cell_below (w := w1.drew) hb2 k0; have q_k1 : w2.cell? ⟨g, 1, none⟩ = some (.int .i64 c1) := cell_below (w := w1.drew) hb2 k1; have q_k2 : w2.cell? ⟨g, 2, none⟩ = some (.int .i64 c2) := cell_below (w := w1.drew) hb2 k2; have q_k3 : w2.cell? ⟨g, 3, none⟩ = some (.int .i64 c3) := cell_below (w := w1.drew) hb2 k3; have q_k4 : w2.cell? ⟨g, 4, none⟩ = some (.int .i64 c4) := cell_below (w := w1.drew) hb2 k4; have q_m0 : w2.cell? ⟨g + 1, 0, none⟩ = some (.int .i64 d0) := cell_below (w := w1.drew) hb2 m0; have q_m1 : w2.cell? ⟨g + 1, 1, none⟩ = some (.int .i64 d1) := cell_below (w := w1.drew) hb2 m1; have q_m2 : w2.cell? ⟨g + 1, 2, none⟩ = some (.int .i64 d2) := cell_below (w := w1.drew) hb2 m2; have q_m3 : w2.cell? ⟨g + 1, 3, none⟩ = some (.int .i64 d3) := cell_below (w := w1.drew) hb2 m3; have q_m4 : w2.cell? ⟨g + 1, 4, none⟩ = some (.int .i64 d4) := cell_below (w := w1.drew) hb2 m4; have q_l0 : w2.cell? ⟨g + 2, 0, none⟩ = some (.int .i64 o.code) := cell_below (w := w1.drew) hb2 l0; have q_l1 : w2.cell? ⟨g + 2, 1, none⟩ = some (.int .i64 o.acc) := cell_below (w := w1.drew) hb2 l1; have q_l2 : w2.cell? ⟨g + 2, 2, none⟩ = some (.int .i64 o.ast) := cell_below (w := w1.drew) hb2 l2; have q_l3 : w2.cell? ⟨g + 2, 3, none⟩ = some (.int .i64 o.qty) := cell_below (w := w1.drew) hb2 l3; have q_l4 : w2.cell? ⟨g + 2, 4, none⟩ = some (.int .i64 o.name) := cell_below (w := w1.drew) hb2 l4; have q_l5 : w2.cell? ⟨g + 2, 5, none⟩ = some (.int .i64 o.id) := cell_below (w := w1.drew) hb2 l5; have q_l6 : w2.cell? ⟨g + 2, 6, none⟩ = some (.slice LA o.legs.length lc) := cell_below (w := w1.drew) hb2 l6; have q_l7 : w2.cell? ⟨g + 2, 7, none⟩ = some (.slice PA o.pairs.length pc) := cell_below (w := w1.drew) hb2 l7)
      | (go_at_call 23; refine (check_calls c0 c1 d2 d3 d4 (ownM o) XL XP xl xp w2 (Reads.of_own hL) (Reads.of_own hP)).mono ?_; rintro e w3 ⟨rfl, hb3⟩; rw [checkN_own, hN]; have p_k0 : w3.cell? ⟨g, 0, none⟩ = some (.int .i64 c0) := cell_below (w := w2) hb3 q_k0; have p_k1 : w3.cell? ⟨g, 1, none⟩ = some (.int .i64 c1) := cell_below (w := w2) hb3 q_k1; have p_k2 : w3.cell? ⟨g, 2, none⟩ = some (.int .i64 c2) := cell_below (w := w2) hb3 q_k2; have p_k3 : w3.cell? ⟨g, 3, none⟩ = some (.int .i64 c3) := cell_below (w := w2) hb3 q_k3; have p_k4 : w3.cell? ⟨g, 4, none⟩ = some (.int .i64 c4) := cell_below (w := w2) hb3 q_k4; have p_m0 : w3.cell? ⟨g + 1, 0, none⟩ = some (.int .i64 d0) := cell_below (w := w2) hb3 q_m0; have p_m1 : w3.cell? ⟨g + 1, 1, none⟩ = some (.int .i64 d1) := cell_below (w := w2) hb3 q_m1; have p_m2 : w3.cell? ⟨g + 1, 2, none⟩ = some (.int .i64 d2) := cell_below (w := w2) hb3 q_m2; have p_m3 : w3.cell? ⟨g + 1, 3, none⟩ = some (.int .i64 d3) := cell_below (w := w2) hb3 q_m3; have p_m4 : w3.cell? ⟨g + 1, 4, none⟩ = some (.int .i64 d4) := cell_below (w := w2) hb3 q_m4; have p_l0 : w3.cell? ⟨g + 2, 0, none⟩ = some (.int .i64 o.code) := cell_below (w := w2) hb3 q_l0; have p_l1 : w3.cell? ⟨g + 2, 1, none⟩ = some (.int .i64 o.acc) := cell_below (w := w2) hb3 q_l1; have p_l2 : w3.cell? ⟨g + 2, 2, none⟩ = some (.int .i64 o.ast) := cell_below (w := w2) hb3 q_l2; have p_l3 : w3.cell? ⟨g + 2, 3, none⟩ = some (.int .i64 o.qty) := cell_below (w := w2) hb3 q_l3; have p_l4 : w3.cell? ⟨g + 2, 4, none⟩ = some (.int .i64 o.name) := cell_below (w := w2) hb3 q_l4; have p_l5 : w3.cell? ⟨g + 2, 5, none⟩ = some (.int .i64 o.id) := cell_below (w := w2) hb3 q_l5; have p_l6 : w3.cell? ⟨g + 2, 6, none⟩ = some (.slice LA o.legs.length lc) := cell_below (w := w2) hb3 q_l6; have p_l7 : w3.cell? ⟨g + 2, 7, none⟩ = some (.slice PA o.pairs.length pc) := cell_below (w := w2) hb3 q_l7)
      | (go_at_call 31; refine (num_errV N _ hN0 hN1).mono ?_; rintro e w' ⟨rfl, rfl⟩))
  have B4 : Below w.heap.size w w3 := B2.trans ((hb2.trans (hb3.mono hb2.size)).mono B2.size)
  go_wp2_with (fail)
  refine (works_calls w3 (hG.below B4)).mono ?_
  rintro e w4 ⟨rfl, hb4⟩
  have B5 : Below w.heap.size w w4 := B4.trans (hb4.mono B4.size)
  have n_k0 := cell_below hb4 p_k0
  have a_k0 := fun (ob : Obj) => cell_alloc n_k0 ob
  have n_k1 := cell_below hb4 p_k1
  have a_k1 := fun (ob : Obj) => cell_alloc n_k1 ob
  have n_k2 := cell_below hb4 p_k2
  have a_k2 := fun (ob : Obj) => cell_alloc n_k2 ob
  have n_k3 := cell_below hb4 p_k3
  have a_k3 := fun (ob : Obj) => cell_alloc n_k3 ob
  have n_k4 := cell_below hb4 p_k4
  have a_k4 := fun (ob : Obj) => cell_alloc n_k4 ob
  have n_m0 := cell_below hb4 p_m0
  have a_m0 := fun (ob : Obj) => cell_alloc n_m0 ob
  have n_m1 := cell_below hb4 p_m1
  have a_m1 := fun (ob : Obj) => cell_alloc n_m1 ob
  have n_m2 := cell_below hb4 p_m2
  have a_m2 := fun (ob : Obj) => cell_alloc n_m2 ob
  have n_m3 := cell_below hb4 p_m3
  have a_m3 := fun (ob : Obj) => cell_alloc n_m3 ob
  have n_m4 := cell_below hb4 p_m4
  have a_m4 := fun (ob : Obj) => cell_alloc n_m4 ob
  have n_l0 := cell_below hb4 p_l0
  have a_l0 := fun (ob : Obj) => cell_alloc n_l0 ob
  have n_l1 := cell_below hb4 p_l1
  have a_l1 := fun (ob : Obj) => cell_alloc n_l1 ob
  have n_l2 := cell_below hb4 p_l2
  have a_l2 := fun (ob : Obj) => cell_alloc n_l2 ob
  have n_l3 := cell_below hb4 p_l3
  have a_l3 := fun (ob : Obj) => cell_alloc n_l3 ob
  have n_l4 := cell_below hb4 p_l4
  have a_l4 := fun (ob : Obj) => cell_alloc n_l4 ob
  have n_l5 := cell_below hb4 p_l5
  have a_l5 := fun (ob : Obj) => cell_alloc n_l5 ob
  have n_l6 := cell_below hb4 p_l6
  have a_l6 := fun (ob : Obj) => cell_alloc n_l6 ob
  have n_l7 := cell_below hb4 p_l7
  have a_l7 := fun (ob : Obj) => cell_alloc n_l7 ob
  clear p_k0 q_k0 p_k1 q_k1 p_k2 q_k2 p_k3 q_k3 p_k4 q_k4 p_m0 q_m0 p_m1 q_m1 p_m2 q_m2 p_m3 q_m3 p_m4 q_m4 p_l0 q_l0 p_l1 q_l1 p_l2 q_l2 p_l3 q_l3 p_l4 q_l4 p_l5 q_l5 p_l6 q_l6 p_l7 q_l7 k0 k1 k2 k3 k4 m0 m1 m2 m3 m4 l0 l1 l2 l3 l4 l5 l6 l7
  clear hL hP hb2 hb3 hb4 B1 B2 B4 hrL2 hrP2
  have hrL5 := fun (ob : Obj) => (hrL.below (B5.alloc B5.size ob)).more (B5.alloc B5.size ob).size
  have hrP5 := fun (ob : Obj) => (hrP.below (B5.alloc B5.size ob)).more (B5.alloc B5.size ob).size
  clear hrL hrP
  have hng : ¬ N < 0 := by omega
  have hmono : ∀ a b : Int, c0 ≤ a → c1 ≤ b → N = 0 → checkN a b o = 0 := fun a b ha hb hz => checkN_mono ha hb o (hN.trans hz)
  obtain ⟨s, hs⟩ : ∃ s, w4.heap.size = s := ⟨_, rfl⟩
  by_cases hz : N = 0
  · have hz' : (N == 0) = true := beq_iff_eq.2 hz
    by_cases h0 : c0 < d0
    · by_cases h1 : c1 < d1
      · go_wp2_with (fail)
        refine (check_calls d0 d1 c2 c3 c4 o LA PA lc pc _ (hrL5 _) (hrP5 _)).mono ?_
        rintro e w5 ⟨rfl, hb5⟩
        rw [hmono d0 d1 (by omega) (by omega) hz, errV_zero]
        go_wp2
        go_ret
        exact ⟨rfl, (B5.alloc B5.size _).trans (hb5.mono (B5.alloc B5.size _).size)⟩
      · go_wp2_with (fail)
        refine (check_calls d0 c1 c2 c3 c4 o LA PA lc pc _ (hrL5 _) (hrP5 _)).mono ?_
        rintro e w5 ⟨rfl, hb5⟩
        rw [hmono d0 c1 (by omega) (by omega) hz, errV_zero]
        go_wp2
        go_ret
        exact ⟨rfl, (B5.alloc B5.size _).trans (hb5.mono (B5.alloc B5.size _).size)⟩
    · by_cases h1 : c1 < d1
      · go_wp2_with (fail)
        refine (check_calls c0 d1 c2 c3 c4 o LA PA lc pc _ (hrL5 _) (hrP5 _)).mono ?_
        rintro e w5 ⟨rfl, hb5⟩
        rw [hmono c0 d1 (by omega) (by omega) hz, errV_zero]
        go_wp2
        go_ret
        exact ⟨rfl, (B5.alloc B5.size _).trans (hb5.mono (B5.alloc B5.size _).size)⟩
      · go_wp2_with (fail)
        refine (check_calls c0 c1 c2 c3 c4 o LA PA lc pc _ (hrL5 _) (hrP5 _)).mono ?_
        rintro e w5 ⟨rfl, hb5⟩
        rw [hmono c0 c1 (by omega) (by omega) hz, errV_zero]
        go_wp2
        go_ret
        exact ⟨rfl, (B5.alloc B5.size _).trans (hb5.mono (B5.alloc B5.size _).size)⟩
  · have hz' : (N == 0) = false := beq_eq_false_iff_ne.2 hz
    by_cases h0 : c0 < d0
    · by_cases h1 : c1 < d1
      · go_wp2
        go_ret
        exact ⟨rfl, B5.alloc B5.size _⟩
      · go_wp2
        go_ret
        exact ⟨rfl, B5.alloc B5.size _⟩
    · by_cases h1 : c1 < d1
      · go_wp2
        go_ret
        exact ⟨rfl, B5.alloc B5.size _⟩
      · go_wp2
        go_ret
        exact ⟨rfl, B5.alloc B5.size _⟩
end Go.Proofs.YtmdkcggmnejkoaaDoor
