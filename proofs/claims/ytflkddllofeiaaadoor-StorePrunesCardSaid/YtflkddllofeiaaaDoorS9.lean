/- Store: the order of keys. -/
import Derived.Test.YtflkddllofeiaaaDoorS8
import Derived.Test.YtflkddllofeiaaaDoorKeyCmp
import Derived.Sort.Grow
namespace Go.Proofs.YtflkddllofeiaaaDoor
set_option linter.unusedSimpArgs false
set_option linter.unusedVariables false
open Go.RowKit Go.MapKept Go.ChangeMaps Go.Maps

theorem grow3 (W : World) (n : Nat) (a b c : Obj) : (((W.alloc a).alloc b).drewN n).alloc c = Go.Sort.grow (W.drewN n) #[a, b, c] := by
  have e1 : (W.alloc a).alloc b = Go.Sort.grow W #[a, b] := by
    rw [Go.Sort.alloc_eq_grow W, Go.Sort.alloc_eq_grow (Go.Sort.grow W #[a]) b, Go.Sort.grow_grow]
    rfl
  rw [e1]
  show (Go.Sort.grow (W.drewN n) #[a, b]).alloc c = _
  rw [Go.Sort.alloc_eq_grow, Go.Sort.grow_grow]
  rfl
set_option maxRecDepth 100000 in
set_option maxHeartbeats 1000000 in
theorem keyCmp_calls (x y : Key) (W : World) : Calls Tryd.prog 29 #[.agg #[.int .i64 x.acc, .int .i64 x.ast], .agg #[.int .i64 y.acc, .int .i64 y.ast]] W
    fun e w' => e = .returned (.int .i64 (cmpK x y)) ∧ ∃ q os', w' = Go.Sort.grow (W.drewN q) os' := by
  have hbx := Blk.new W 23 #[.int .i64 x.acc, .int .i64 x.ast]
  have hby := Blk.new (W.alloc (.cells #[.int .i64 x.acc, .int .i64 x.ast] 23)) 23 #[.int .i64 y.acc, .int .i64 y.ast]
  obtain ⟨V, hV⟩ : ∃ X, (W.alloc (.cells #[.int .i64 x.acc, .int .i64 x.ast] 23)).alloc (.cells #[.int .i64 y.acc, .int .i64 y.ast] 23) = X := ⟨_, rfl⟩
  have hbx2 : Blk V W.heap.size 23 #[.int .i64 x.acc, .int .i64 x.ast] := hV ▸ hbx.below ((Below.refl _ _).alloc (Nat.le_refl _) _) hbx.lt
  have hs : (W.alloc (.cells #[.int .i64 x.acc, .int .i64 x.ast] 23)).heap.size = W.heap.size + 1 := by simp
  rw [hs, hV] at hby
  obtain ⟨g, hg⟩ : ∃ g, W.heap.size = g := ⟨_, rfl⟩
  rw [hg] at hbx2 hby
  have x0 : V.cell? ⟨g, 0, none⟩ = some (.int .i64 x.acc) := hbx2.cell 0
  have x1 : V.cell? ⟨g, 1, none⟩ = some (.int .i64 x.ast) := hbx2.cell 1
  have y0 : V.cell? ⟨g + 1, 0, none⟩ = some (.int .i64 y.acc) := hby.cell 0
  have y1 : V.cell? ⟨g + 1, 1, none⟩ = some (.int .i64 y.ast) := hby.cell 1
  have hcmp : ∀ a b n, Calls Tryd.prog 31 #[.int .i64 a, .int .i64 b] (V.drewN n) fun e w'' => e = .returned (.int .i64 (cmpI a b)) ∧ ∃ m, w'' = V.drewN m := fun a b n => (compare_calls a b _).mono (fun _ _ h => ⟨h.1, n, h.2⟩)
  obtain ⟨c1, hc1⟩ : ∃ c, cmpI x.acc y.acc = c := ⟨_, rfl⟩
  obtain ⟨c2, hc2⟩ : ∃ c, cmpI x.ast y.ast = c := ⟨_, rfl⟩
  have hk : cmpK x y = if c1 = 0 then c2 else c1 := by unfold cmpK; rw [hc1, hc2]
  have hcA := fun n => hcmp x.acc y.acc n
  have hcB := fun n => hcmp x.ast y.ast n
  simp only [hc1] at hcA
  simp only [hc2] at hcB
  have hor : ∀ n, Calls Tryd.prog 30 #[.slice (some ⟨(V.drewN n).heap.size, 0, none⟩) 2 2] ((V.drewN n).alloc (.cells #[.int .i64 c1, .int .i64 c2] 3)) fun e w' => e = .returned (.int .i64 (if c1 = 0 then c2 else c1)) ∧ w' = (V.drewN n).alloc (.cells #[.int .i64 c1, .int .i64 c2] 3) := fun n => by
    have hb := Blk.new (V.drewN n) 3 #[.int .i64 c1, .int .i64 c2]
    exact or2_calls c1 c2 _ 2 _ (hb.cell 0) (hb.cell 1)
  rw [← hk] at hor
  obtain ⟨r, hr⟩ : ∃ r, cmpK x y = r := ⟨_, rfl⟩
  rw [hr]
  simp only [hr] at hor
  have hfin : ∀ n, ∃ q os', (V.drewN n).alloc (.cells #[.int .i64 c1, .int .i64 c2] 3) = Go.Sort.grow (W.drewN q) os' := fun n => ⟨n, _, by rw [← hV]; exact grow3 W n _ _ _⟩
  have HCA := Lib.hid hcA
  have HCB := Lib.hid hcB
  have HOR := Lib.hid hor
  have HF := Lib.hid hfin
  have HV := Lib.hid hV
  have HG := Lib.hid hg
  clear hbx hby hbx2 hs hcmp hc1 hc2 hk hcA hcB hor hr hfin hV hg
  go_enter Tryd.func29, Tryd.ntmps29
  go_wp2_with (fail)
  rw [HV.out, HG.out]
  refine region_dtail 10 (by kernel_rfl) (by kernel_rfl) ?_
  simp only [List.take_succ_cons, List.take_zero, List.drop_succ_cons, List.drop_zero]
  repeat go_big_quiet_step ((go_at_call 31; first | (with_reducible exact HCA.out _) | (with_reducible exact HCB.out _)))
  refine wpQuiet_nil ?_
  rintro _ ⟨nq, rfl⟩
  go_wp2_with (fail)
  refine (HOR.out nq).mono ?_
  rintro e w' ⟨rfl, rfl⟩
  go_wp2
  go_ret
  exact ⟨rfl, HF.out nq⟩
end Go.Proofs.YtflkddllofeiaaaDoor
