/- custodylaw10.all: what a walk over a chain gives, as a row. -/
import Derived.Test.YtmljiegeingpeaaDoorWide
import Derived.Test.YtmljiegeingpeaaDoorLastV
namespace Go.Proofs.YtmljiegeingpeaaDoor
set_option linter.unusedSimpArgs false
set_option linter.unusedVariables false
open Go.RowKit Go.Shelf
attribute [local go_sem] Oper.semAt_some

theorem own_kept2 {W W' : World} {base : Nat} {e : TypeId} {size n : Nat} {v : Value} {xs : List Value} {row : Option Nat} (h : W.ownsRow base e size v n xs) (hg : W.grownBy W' row) (hr : ∀ r, row = some r → ∃ o : Obj, W.heap[r]? = some o ∧ o.isCells = false) : W'.ownsRow base e size v n xs := by
  refine h.kept hg ?_
  rcases h.2 with h0 | ⟨g, cap, cur, rfl, h1, h2, h3⟩
  · rw [h0.1]; exact .inl rfl
  · refine .inr fun he => ?_
    obtain ⟨o, ho, hn⟩ := hr g he.symm
    rw [h2] at ho
    cases ho
    cases hn

theorem keeps_append {W W2 : World} {o : Obj} {base : Nat} {e : TypeId} {size n : Nat} {v : Value} {xs : List Value} (h : W.ownsRow base e size v n xs) (hg : (W.alloc o).grownBy W2 v.ownBlock) : KeepsOthers W W2 := by
  refine ⟨Nat.le_trans (by simp) hg.size, fun k q hk hq => ?_⟩
  have hlt : k < W.heap.size := (Array.getElem?_eq_some_iff.1 hk).1
  rw [hg.block k (by simp; omega) ?_, Below.heap_alloc W o k hlt, hk]
  intro he
  rcases h.2 with h0 | ⟨g, cap, cur, rfl, h1, h2, h3⟩
  · rw [h0.1] at he; cases he
  · cases he
    rw [h2] at hk
    cases hk
    cases hq
theorem keepk_append {K : Nat → Prop} {W W2 : World} {o : Obj} {row : Option Nat} (hg : (W.alloc o).grownBy W2 row) (hK : ∀ i, K i → i < W.heap.size ∧ row ≠ some i) : KeepK K W W2 :=
  ⟨Nat.le_trans (by simp) hg.size, fun i hi => (hg.block i (by have := (hK i hi).1; simp; omega) (fun e => (hK i hi).2 e.symm)).trans (Below.heap_alloc W o i (hK i hi).1)⟩
theorem eql_func_nil (w : World) (f : Fn) (a b : Array Value) : (binOp .eql 35 (.func f a b) .nilFunc).run Tryd.prog w = .ok (.bool false) w := by
  have h : ∀ d, (Op.equalIn (d + 1) 35 (.func f a b) .nilFunc).run Tryd.prog w = .ok false w := fun d => by
    simp [Op.equalIn, run_underlying Tryd.underlying35]
  have h2 : (Op.equal 35 (.func f a b) .nilFunc).run Tryd.prog w = .ok false w := h 9999
  simp [binOp, h2]

set_option maxRecDepth 100000 in
set_option maxHeartbeats 4000000 in
theorem allV_calls {p : Nat} {sv : Value} {L : List VerS} (most : Int) (w : World) (h : Chn w p sv L) (hmost : (L.length : Int) ≤ most) :
    Calls Tryd.prog 28 #[.pointer (some ⟨p, 0, none⟩), .int .i64 most] w
    fun e w' => ∃ v, e = .returned v ∧ RowR w' v L ∧ Below w.heap.size w w' := by
  obtain ⟨i0, hi0, hz0, hz1, hz2⟩ := info_parts infoVersR
  have hlen := h.len
  refine (callsIn_wide (n := 3)).1 ?_
  refine callsIn_of_wp_marks Tryd.func28 rfl trivial ?_ rfl
  simp only [Tryd.ntmps28, List.size_toArray, List.length_cons, List.length_nil, Nat.reduceAdd, Nat.reduceSub, Array.replicate_succ, Array.replicate_zero, List.push_toArray, List.append_toArray, List.nil_append, List.cons_append]
  obtain ⟨g, hg⟩ : ∃ g, w.heap.size = g := ⟨_, rfl⟩
  have hnil := eql_func_nil
  gi_wp2_with (first | (refine ⟨trivial, ?_⟩; gi_at_call 13; refine (callsIn_wide.2 (all_calls p _)).mono ?_; rintro e w' ⟨rfl, rfl⟩))
  obtain ⟨W0, hW0⟩ : ∃ W0, ((w.alloc (.cells #[.int .i64 most] 3)).alloc (.cells #[.slice none 0 0] 46)).alloc (.cells #[.pointer (some ⟨p, 0, none⟩)] 23) = W0 := ⟨_, rfl⟩
  have s1 : ∀ (v : World) (o : Obj), (v.alloc o).heap.size = v.heap.size + 1 := fun v o => by simp
  have hB0 : Below w.heap.size w W0 := hW0 ▸ (((Below.refl _ _).alloc (Nat.le_refl _) _).alloc (by simp) _).alloc (by simp; omega) _
  have hs0 : W0.heap.size = g + 3 := by rw [← hW0]; simp [s1, hg]
  have b0 : Blk W0 g 3 #[.int .i64 most] := by
    rw [← hW0, ← hg]; exact ((Blk.new w _ _).alloc _).alloc _
  have b1 : Blk W0 (g + 1) 46 #[.slice none 0 0] := by
    rw [← hW0, ← hg]; have h := Blk.new (w.alloc (.cells #[.int .i64 most] 3)) 46 #[.slice none 0 0]; rw [s1] at h; exact h.alloc _
  have b2 : Blk W0 (g + 1 + 1) 23 #[.pointer (some ⟨p, 0, none⟩)] := by
    rw [← hW0, ← hg]; have h := Blk.new ((w.alloc (.cells #[.int .i64 most] 3)).alloc (.cells #[.slice none 0 0] 46)) 23 #[.pointer (some ⟨p, 0, none⟩)]; rw [s1, s1] at h; exact h
  have hC0 : Chn W0 p sv L := h.below hB0
  have hKlt : ∀ i, WalkK (g + 1 + 1) p sv i → i < W0.heap.size := by
    rintro i (rfl | hi)
    · rw [hs0]; omega
    · exact hC0.of_lt hi
  have hold : ∀ i, OfC p sv i → i < g := fun i hi => hg ▸ h.of_lt hi
  rw [hW0]
  have H := Lib.hid h
  clear hW0 h hnil
  refine wpIn_rangeFunc_ownG (F := Fence.wide) rfl (by omega) (gf := 34) (lb := #[.pointer (some ⟨g + 1 + 1, 0, none⟩)]) rfl trivial (enters_of Tryd.func34 (by kernel_rfl) rfl)
    (all_stops 2 (by omega) (g + 1 + 1) p sv L W0 b2 hC0) KeepK.trans (KeepK.put hKlt) (Below.refl _ _) (fun _ => rfl)
    (fun pre W => (Blk W g 3 #[.int .i64 most] ∧ Blk W (g + 1 + 1) 23 #[.pointer (some ⟨p, 0, none⟩)] ∧ ∃ ov, Blk W (g + 1) 46 #[ov] ∧ W.ownsRow (g + 3) 72 2 ov pre.length (versC pre)) ∧ Below w.heap.size w W)
    (fun _ _ _ => False)
    (OwnFrom.and (Own.from (fun s A B row hs hg hr => ⟨blk_kept hs.1 hg hr, blk_kept hs.2.1 hg hr, by obtain ⟨ov, h1, h2⟩ := hs.2.2; exact ⟨ov, blk_kept h1 hg hr, own_kept2 h2 hg hr⟩⟩) _) (ownFrom_below (Nat.le_refl _) (by rw [hs0]; omega)))
    (fun _ _ _ _ _ hs _ _ => hs)
    ⟨⟨b0, b2, _, b1, World.ownsRow_nil _ _ _ _⟩, hB0⟩
    (fun x => { tmps := #[.pointer (some ⟨p, 0, none⟩), .int .i64 most, undef, .pointer (some ⟨g, 0, none⟩), .slice none 0 0, .pointer (some ⟨g + 1, 0, none⟩), .func (.func 34) #[] #[.pointer (some ⟨g + 1 + 1, 0, none⟩)], .int .i64 x.n, .string x.v, .pointer (some ⟨p, 0, none⟩), .func (.func 34) #[] #[.pointer (some ⟨g + 1 + 1, 0, none⟩)], .func (.func 34) #[] #[.pointer (some ⟨g + 1 + 1, 0, none⟩)], .bool false, undef, undef, .func (.func 34) #[] #[.pointer (some ⟨g + 1 + 1, 0, none⟩)], .int .i64 x.n, .string x.v, undef, undef, undef, undef, undef, undef, undef, undef, undef, undef, undef], defers := [] }) ?assign ?body ?done ?stop
  case assign =>
    intro l x W K hK
    gi_wp2
    exact hK
  case body =>
    rintro l pre x W ⟨⟨c0, cb, ov, c1, hown⟩, hB⟩ hpl
    obtain ⟨OA, oc, rfl⟩ := own_slice hown
    have y0 : W.cell? ⟨g, 0, none⟩ = some (.int .i64 most) := c0.cell 0
    have y1 : W.cell? ⟨g + 1, 0, none⟩ = some (.slice OA pre.length oc) := c1.cell 0
    have z1 : W.frozen? ⟨g + 1, 0, none⟩ = false := c1.frozen 0
    have C0 := Lib.hid c0
    have C1 := Lib.hid c1
    have HO := Lib.hid hown
    have hp1 : ((pre.length : Nat) : Int) + 1 ≤ most := by omega
    have HG3 := Lib.hid (by have := cb.lt; omega : g + 3 ≤ W.heap.size)
    have CB := Lib.hid cb
    clear cb
    clear c0 c1 hown
    gi_wp2_with (first | (gi_at_builtin; refine wpListIn_append_wide _ rfl (.tmp 18) (.tmp 22) 46 rfl (g + 3) 72 i0 _ 2 24 Tryd.underlying46 hi0 hz0 hz1 hz2 rfl (by decide) _ pre.length (versC pre) rfl (HO.out.alloc _) ⟨W.heap.size, 0, none⟩ 1 1 [.int .i64 x.n, .string x.v] rfl rfl ?_ ?_ ?_ ?_ ?_ ?_; exact new_cells W 72 [.int .i64 x.n, .string x.v]; (simp [Value.oneCell']); (unfold maxLen; omega); (omega); (have := HG3.out; simp; omega); intro v1 w2 hown2 hg2 _; obtain ⟨BA, bc, rfl⟩ := own_slice hown2; have k1 := Blk.grown (C1.out.alloc _) hg2 (Ne.symm (own_blk_ne HO.out C1.out (by decide))); have k0 := Blk.grown (C0.out.alloc _) hg2 (Ne.symm (own_blk_ne HO.out C0.out (by decide))); have c2 : w2.cell? ⟨g + 1, 0, none⟩ = some (.slice OA pre.length oc) := Blk.cell k1 0; have z2 : w2.frozen? ⟨g + 1, 0, none⟩ = false := Blk.frozen k1 0; have d2 : w2.cell? ⟨g, 0, none⟩ = some (.int .i64 most) := Blk.cell k0 0; have K0 := Lib.hid k0; have K1 := Lib.hid k1; clear k0 k1))
    have hrow : ∀ b, (Value.slice OA pre.length oc).ownBlock = some b → g + 3 ≤ b := fun b hb => own_base HO.out hb
    have hnK : ¬ WalkK (g + 1 + 1) p sv (g + 1) := by
      rintro (h3 | h3)
      · omega
      · have := hold _ h3; omega
    have hKr : ∀ i, WalkK (g + 1 + 1) p sv i → i < W.heap.size ∧ (Value.slice OA pre.length oc).ownBlock ≠ some i := by
      rintro i (rfl | h3)
      · exact ⟨CB.out.lt, fun he => by have := hrow _ he; omega⟩
      · have := hold _ h3
        exact ⟨by have := HG3.out; omega, fun he => by have := hrow _ he; omega⟩
    have hBk : Blk w2 (g + 1 + 1) 23 #[.pointer (some ⟨p, 0, none⟩)] := (CB.out.alloc _).grown hg2 (fun he => by have := hrow _ he.symm; omega)
    have e1 : (pre ++ [x]).length = pre.length + 1 := by simp
    have e2 : versC (pre ++ [x]) = versC pre ++ [.int .i64 x.n, .string x.v] := by simp [versC, VerS.cs]
    refine ⟨((keeps_append HO.out hg2).trans (KeepsOthers.setCell _ _ _)).from _, (keepk_append hg2 hKr).setCell hnK _, ⟨K0.out.far (by show g ≠ g + 1; omega) _, hBk.far (by show g + 1 + 1 ≠ g + 1; omega) _, _, Blk.set_ K1.out 0 _, ?_⟩, ((hB.alloc hB.size _).grown hg2 (by have := hB.size; simp; omega) (fun b hb => by have := hrow b hb; omega)).setCell (p := ⟨g + 1, 0, none⟩) (by show w.heap.size ≤ g + 1; omega) _⟩
    rw [e1, e2]
    refine own_but (S := fun i => i = g + 1) hown2 ((But.refl w2 (fun i => i = g + 1)).setCell (fun _ => rfl) _) (fun b hb he => ?_)
    have := own_base hown2 hb
    omega
  case done =>
    rintro D ys W hD rfl ⟨⟨c0, cb, ov, c1, hown⟩, hB⟩ hK
    have y1 : W.cell? ⟨g + 1, 0, none⟩ = some ov := c1.cell 0
    have HO := Lib.hid hown
    clear c0 c1 cb hown
    gi_wp2
    refine ⟨by simp, .inl ⟨_, _, rfl, run_takeDeferred hK, ?_⟩⟩
    exact ⟨_, results_tmp rfl _ _ _, _, rfl, own_base0 (own_kept2 HO.out (grownBy_putObj' W D (.deferred none)) (fun r e => by cases e; exact ⟨_, hK, rfl⟩)), hB.trans (belowK_b (w := w) (Nat.le_refl _) W D _ _ (by rw [hs0] at hD; omega) hK rfl rfl)⟩
  case stop =>
    rintro D c pre W _ _ h _
    exact h.elim
end Go.Proofs.YtmljiegeingpeaaDoor
