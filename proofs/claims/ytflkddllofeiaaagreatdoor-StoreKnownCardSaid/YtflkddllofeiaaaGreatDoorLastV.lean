/- Chains of texts: Last. -/
import Derived.Test.YtflkddllofeiaaaGreatDoorAll
import Derived.Deep.RegionHeld3
namespace Go.Proofs.YtflkddllofeiaaaGreatDoor
set_option linter.unusedSimpArgs false
set_option linter.unusedVariables false
open Go.RowKit Go.Shelf
attribute [local go_sem] Oper.semAt_some

theorem blk_kept {W W' : World} {g : Nat} {t : TypeId} {cs : Array Value} {row : Option Nat} (h : Blk W g t cs) (hg : W.grownBy W' row) (hr : ∀ r, row = some r → ∃ o : Obj, W.heap[r]? = some o ∧ o.isCells = false) : Blk W' g t cs := by
  refine h.grown hg fun he => ?_
  obtain ⟨o, ho, hn⟩ := hr g he.symm
  have h' : W.heap[g]? = some (.cells cs t (0, 0)) := h
  rw [h'] at ho
  cases ho
  cases hn
theorem blk_put {W : World} {g D : Nat} {t : TypeId} {cs : Array Value} {o : Obj} (h : Blk W g t cs) (hk : W.heap[D]? = some o) (hn : o.isCells = false) (o' : Obj) : Blk (W.putObj D o') g t cs :=
  blk_kept h (grownBy_putObj' W D o') (fun r e => by cases e; exact ⟨_, hk, hn⟩)

/-- A store of what the cell holds. -/
theorem setCell_self {w : World} {g : Nat} {t : TypeId} {v : Value} (h : Blk w g t #[v]) : w.setCell ⟨g, 0, none⟩ v = w := by
  have h' : w.heap[g]? = some (.cells #[v] t (0, 0)) := h
  have hm : (w.setCell ⟨g, 0, none⟩ v).heap = w.heap := by
    unfold World.setCell
    apply Array.ext_getElem?
    intro i
    rw [Array.getElem?_modify]
    split
    · rename_i he
      have he' : i = g := he.symm
      subst he'
      rw [h']
      rfl
    · rfl
  cases w
  unfold World.setCell at hm ⊢
  simp only at hm ⊢
  rw [hm]
theorem lastV_snoc (l : List VerS) (x : VerS) : lastV (l ++ [x]) = x.v := by simp [lastV]
theorem lastM_snoc (l : List VerS) (x : VerS) : lastM (l ++ [x]) = x.n := by unfold lastM; rw [if_neg (by simp), lastNo_snoc]

set_option maxRecDepth 100000 in
set_option maxHeartbeats 4000000 in
theorem last_calls {p : Nat} {sv : Value} {L : List VerS} (w : World) (h : Chn w p sv L) : Calls Tryz.prog 67 #[.pointer (some ⟨p, 0, none⟩)] w
    fun e w' => e = .returned (.tuple #[.string (lastV L), .int .i64 (lastM L), .bool (decide (0 < L.length))]) ∧ Below w.heap.size w w' := by
  refine (callsIn_wide (n := 3)).1 ?_
  refine callsIn_of_wp_marks Tryz.func67 rfl trivial ?_ rfl
  simp only [Tryz.ntmps67, List.size_toArray, List.length_cons, List.length_nil, Nat.reduceAdd, Nat.reduceSub, Array.replicate_succ, Array.replicate_zero, List.push_toArray, List.append_toArray, List.nil_append, List.cons_append]
  obtain ⟨g, hg⟩ : ∃ g, w.heap.size = g := ⟨_, rfl⟩
  gi_wp2_with (first | (refine ⟨trivial, ?_⟩; gi_at_call 89; refine (callsIn_wide.2 (all_calls p _)).mono ?_; rintro e w' ⟨rfl, rfl⟩))
  obtain ⟨W0, hW0⟩ : ∃ W0, (((w.alloc (.cells #[.string ⟨#[]⟩] 9)).alloc (.cells #[.int .i64 0] 3)).alloc (.cells #[.bool false] 4)).alloc (.cells #[.pointer (some ⟨p, 0, none⟩)] 80) = W0 := ⟨_, rfl⟩
  have s1 : ∀ (v : World) (o : Obj), (v.alloc o).heap.size = v.heap.size + 1 := fun v o => by simp
  have hB0 : Below w.heap.size w W0 := hW0 ▸ ((((Below.refl _ _).alloc (Nat.le_refl _) _).alloc (by simp) _).alloc (by simp; omega) _).alloc (by simp; omega) _
  have hs0 : W0.heap.size = g + 4 := by rw [← hW0]; simp [s1, hg]
  have b0 : Blk W0 g 9 #[.string ⟨#[]⟩] := by
    rw [← hW0, ← hg]; exact (((Blk.new w _ _).alloc _).alloc _).alloc _
  have b1 : Blk W0 (g + 1) 3 #[.int .i64 0] := by
    rw [← hW0, ← hg]; have h := Blk.new (w.alloc (.cells #[.string ⟨#[]⟩] 9)) 3 #[.int .i64 0]; rw [s1] at h; exact (h.alloc _).alloc _
  have b2 : Blk W0 (g + 1 + 1) 4 #[.bool false] := by
    rw [← hW0, ← hg]; have h := Blk.new ((w.alloc (.cells #[.string ⟨#[]⟩] 9)).alloc (.cells #[.int .i64 0] 3)) 4 #[.bool false]; rw [s1, s1] at h; exact h.alloc _
  have b3 : Blk W0 (g + 1 + 1 + 1) 80 #[.pointer (some ⟨p, 0, none⟩)] := by
    rw [← hW0, ← hg]; have h := Blk.new (((w.alloc (.cells #[.string ⟨#[]⟩] 9)).alloc (.cells #[.int .i64 0] 3)).alloc (.cells #[.bool false] 4)) 80 #[.pointer (some ⟨p, 0, none⟩)]; rw [s1, s1, s1] at h; exact h
  have hC0 : Chn W0 p sv L := h.below hB0
  have hKlt : ∀ i, WalkK (g + 1 + 1 + 1) p sv i → i < W0.heap.size := by
    rintro i (rfl | hi)
    · rw [hs0]; omega
    · exact hC0.of_lt hi
  have hold : ∀ i, OfC p sv i → i < g := fun i hi => hg ▸ h.of_lt hi
  rw [hW0]
  have H := Lib.hid h
  clear hW0 h
  refine wpIn_rangeFunc_ownG (F := Fence.wide) rfl (by omega) (gf := 114) (lb := #[.pointer (some ⟨g + 1 + 1 + 1, 0, none⟩)]) rfl trivial (enters_of Tryz.func114 (by kernel_rfl) rfl)
    (all_stops 2 (by omega) (g + 1 + 1 + 1) p sv L W0 b3 hC0) KeepK.trans (KeepK.put hKlt) (Below.refl _ _) (fun _ => rfl)
    (fun pre W => (Blk W g 9 #[.string (lastV pre)] ∧ Blk W (g + 1) 3 #[.int .i64 (lastM pre)] ∧ Blk W (g + 1 + 1) 4 #[.bool (decide (0 < pre.length))]) ∧ Below w.heap.size w W)
    (fun _ _ _ => False)
    (OwnFrom.and (Own.from (fun s A B row hs hg hr => ⟨blk_kept hs.1 hg hr, blk_kept hs.2.1 hg hr, blk_kept hs.2.2 hg hr⟩) _) (ownFrom_below (Nat.le_refl _) (by rw [hs0]; omega)))
    (fun _ _ _ _ _ hs _ _ => hs)
    ⟨⟨b0, b1, b2⟩, hB0⟩
    (fun x => { tmps := #[.pointer (some ⟨p, 0, none⟩), undef, .pointer (some ⟨g, 0, none⟩), .pointer (some ⟨g + 1, 0, none⟩), .pointer (some ⟨g + 1 + 1, 0, none⟩), .int .i64 x.n, .string x.v, .pointer (some ⟨p, 0, none⟩), .func (.func 114) #[] #[.pointer (some ⟨g + 1 + 1 + 1, 0, none⟩)], .int .i64 x.n, .string x.v, undef, undef, undef, undef, undef], defers := [] }) ?assign ?body ?done ?stop
  case assign =>
    intro l x W K hK
    gi_wp2
    exact hK
  case body =>
    rintro l pre x W ⟨⟨c0, c1, c2⟩, hB⟩ _
    have y0 : W.cell? ⟨g, 0, none⟩ = some (.string (lastV pre)) := c0.cell 0
    have y1 : W.cell? ⟨g + 1, 0, none⟩ = some (.int .i64 (lastM pre)) := c1.cell 0
    have y2 : W.cell? ⟨g + 1 + 1, 0, none⟩ = some (.bool (decide (0 < pre.length))) := c2.cell 0
    have z0 : W.frozen? ⟨g, 0, none⟩ = false := c0.frozen 0
    have z1 : W.frozen? ⟨g + 1, 0, none⟩ = false := c1.frozen 0
    have z2 : W.frozen? ⟨g + 1 + 1, 0, none⟩ = false := c2.frozen 0
    have C0 := Lib.hid c0
    have C1 := Lib.hid c1
    have C2 := Lib.hid c2
    clear c0 c1 c2
    gi_wp2
    have hnK : ∀ j, g ≤ j → j < g + 3 → ¬ WalkK (g + 1 + 1 + 1) p sv j := by
      rintro j h1 h2 (h3 | h3)
      · omega
      · have := hold j h3; omega
    refine ⟨((KeepsOthers.setCell _ _ _).trans ((KeepsOthers.setCell _ _ _).trans (KeepsOthers.setCell _ _ _))).from _, (((KeepK.refl _ W).setCell (hnK _ (Nat.le_refl _) (by show g < g + 3; omega)) _).setCell (hnK _ (by simp) (by simp)) _).setCell (hnK _ (by simp; omega) (by simp)) _, ⟨?_, ?_, ?_⟩, ((hB.setCell (p := ⟨g, 0, none⟩) (by show w.heap.size ≤ g; omega) _).setCell (p := ⟨g + 1, 0, none⟩) (by simp [hg]) _).setCell (p := ⟨g + 1 + 1, 0, none⟩) (by simp [hg]; omega) _⟩
    · rw [lastV_snoc]
      exact ((C0.out.set_ 0 (.string x.v)).far (by show g ≠ g + 1; omega) _).far (by show g ≠ g + 1 + 1; omega) _
    · rw [lastM_snoc]
      exact ((C1.out.far (p := ⟨g, 0, none⟩) (by show g + 1 ≠ g; omega) _).set_ 0 (.int .i64 x.n)).far (by show g + 1 ≠ g + 1 + 1; omega) _
    · have hd : decide (0 < (pre ++ [x]).length) = true := by simp
      rw [hd]
      exact ((C2.out.far (p := ⟨g, 0, none⟩) (by show g + 1 + 1 ≠ g; omega) _).far (p := ⟨g + 1, 0, none⟩) (by show g + 1 + 1 ≠ g + 1; omega) _).set_ 0 (.bool true)
  case done =>
    rintro D ys W hD rfl ⟨⟨c0, c1, c2⟩, hB⟩ hK
    have y0 : W.cell? ⟨g, 0, none⟩ = some (.string (lastV ys)) := c0.cell 0
    have y1 : W.cell? ⟨g + 1, 0, none⟩ = some (.int .i64 (lastM ys)) := c1.cell 0
    have y2 : W.cell? ⟨g + 1 + 1, 0, none⟩ = some (.bool (decide (0 < ys.length))) := c2.cell 0
    have z0 : W.frozen? ⟨g, 0, none⟩ = false := c0.frozen 0
    have z1 : W.frozen? ⟨g + 1, 0, none⟩ = false := c1.frozen 0
    have z2 : W.frozen? ⟨g + 1 + 1, 0, none⟩ = false := c2.frozen 0
    have C0 := Lib.hid c0
    have C1 := Lib.hid c1
    have C2 := Lib.hid c2
    have w0 := setCell_self c0
    have w1 := setCell_self c1
    have w2 := setCell_self c2
    have w0' := setCell_self (w := W.drew) c0
    have w1' := setCell_self (w := W.drew) c1
    have w2' := setCell_self (w := W.drew) c2
    clear c0 c1 c2 b0 b1 b2 b3
    gi_wp2
    refine wpIn_wide.2 ?_
    go_region_held3 (fun W' => W'.cell? ⟨g, 0, none⟩ = some (.string (lastV ys)) ∧ W'.cell? ⟨g + 1, 0, none⟩ = some (.int .i64 (lastM ys)) ∧ W'.cell? ⟨g + 1 + 1, 0, none⟩ = some (.bool (decide (0 < ys.length))) ∧ W'.frozen? ⟨g, 0, none⟩ = false ∧ W'.frozen? ⟨g + 1, 0, none⟩ = false ∧ W'.frozen? ⟨g + 1 + 1, 0, none⟩ = false) (go_keep) (fail)
    clear w0 w1 w2 w0' w1' w2'
    gi_wp2
    have hK' : W.drew.heap[D]? = some (.deferred (some [])) := hK
    refine ⟨by simp, .inl ⟨_, _, rfl, run_takeDeferred hK', ?_⟩⟩
    have e0 : (W.drew.putObj D (.deferred none)).cell? ⟨g, 0, none⟩ = some (.string (lastV ys)) := (blk_put (W := W.drew) (o := .deferred (some [])) C0.out hK' rfl (.deferred none)).cell 0
    have e1 : (W.drew.putObj D (.deferred none)).cell? ⟨g + 1, 0, none⟩ = some (.int .i64 (lastM ys)) := (blk_put (W := W.drew) (o := .deferred (some [])) C1.out hK' rfl (.deferred none)).cell 0
    have e2 : (W.drew.putObj D (.deferred none)).cell? ⟨g + 1 + 1, 0, none⟩ = some (.bool (decide (0 < ys.length))) := (blk_put (W := W.drew) (o := .deferred (some [])) C2.out hK' rfl (.deferred none)).cell 0
    refine ⟨.tuple #[.string (lastV ys), .int .i64 (lastM ys), .bool (decide (0 < ys.length))], ?_, rfl, hB.drew.trans (belowK_b (w := w) (Nat.le_refl _) W.drew D _ _ (by rw [hs0] at hD; omega) hK' rfl rfl)⟩
    simp [results, Tryz.f67, go_sem, e0, e1, e2]
  case stop =>
    rintro D c pre W _ _ h _
    exact h.elim
end Go.Proofs.YtflkddllofeiaaaGreatDoor
