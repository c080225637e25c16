/- custodykit's lists of the kind Keys: marks, lent lists, and whether they were kept, by contracts. -/
import Derived.Test.YtmcknfpohnobdaaDoorKit0
namespace Go.Proofs.YtmcknfpohnobdaaDoor
set_option linter.unusedSimpArgs false
set_option linter.unusedVariables false
open Go.RowKit

def markKeys (k i : Int) : Key := ⟨mk0 k, i⟩
def markKeyss : List Key := (List.range 16).map fun (j : Nat) => markKeys 90 (j : Int)
theorem markKeyss_len : markKeyss.length = 16 := rfl
theorem infoKeys : (Tryd.prog.info? 48).map (fun i => (i.zero, i.size, i.bytes)) = some (some (.agg #[.int .i64 0, .int .i64 0]), 2, 16) := by kernel_rfl

set_option maxRecDepth 100000 in
theorem markKeys_calls (k i : Int) (w : World) (hk : 0 ≤ k ∧ k ≤ 100000) : Calls Tryd.prog 53 #[.int .i64 k, .int .i64 i] w fun e w' => e = .returned (.agg #[.int .i64 (markKeys k i).acc, .int .i64 (markKeys k i).ast]) ∧ Below w.heap.size w w' := by
  obtain ⟨hk0, hk1⟩ := hk
  go_enter Tryd.func53, Tryd.ntmps53
  go_wp2
  refine bodyPost_ret (v := .agg #[.int .i64 (-10 - k), .int .i64 i]) (by simp [results, Tryd.results53, go_sem]) rfl ⟨rfl, ?_⟩
  exact (Below.refl _ _).alloc (Nat.le_refl _) _

theorem markKeys_cs (j : Nat) (hj : j < 16) : markKeyss.take (j + 1) = markKeyss.take j ++ [markKeys 90 (j : Int)] := by
  rw [List.take_succ_eq_append_getElem (by rw [markKeyss_len]; exact hj)]
  simp [markKeyss]

set_option maxRecDepth 100000 in
set_option maxHeartbeats 4000000 in
theorem fullKeys_calls (l : List Key) (A : Option Addr) (c B : Nat) (w : World) (hr : Reads w B 2 A l.length (keysC l)) (hB : B ≤ w.heap.size) (hlen : l.length * 16 ≤ 140737488351232) :
    Calls Tryd.prog 41 #[.slice A l.length c] w (NewRow w 48 2 (l.length + 16) (keysC (l ++ markKeyss))) := by
  obtain ⟨i0, hi0, hz0, hz1, hz2⟩ := info_parts infoKeys
  go_enter Tryd.func41, Tryd.ntmps41
  go_wp2_with (fail)
  go_loopw [3, 4] (fun v i wr => ∃ k : Nat, k ≤ l.length ∧ i = .int .i64 k ∧ wr.ownsRow w.heap.size 48 2 v k (keysC (l.take k)) ∧ Below w.heap.size w wr) (fun _ i _ => l.length - (intOf i).toNat)
  case atStart => exact ⟨0, Nat.zero_le _, rfl, World.ownsRow_nil _ _ _ _, Below.refl _ _⟩
  case round =>
    obtain ⟨k, hk, rfl, hown, hbel⟩ := hrel
    by_cases hlt : k < l.length
    · obtain ⟨ad, rfl, hadb, e0, e1⟩ := keys_at (hr.below (hbel.mono hB)) hlt
      have htk : l.take (k + 1) = l.take k ++ [l[k]] := by rw [List.take_succ_eq_append_getElem hlt]
      have HTK := Lib.hid htk
      clear htk
      generalize hx : l[k] = x at e0 e1 HTK
      have HX := Lib.hid hx
      clear hx hr
      go_wp2_with ((at_builtin; refine wpList_append_own _ rfl (.tmp 12) (.tmp 17) 31 rfl w.heap.size 48 i0 _ 2 16 Tryd.underlying31 hi0 hz0 hz1 hz2 rfl (by decide) _ (k) (keysC (l.take k)) rfl (hown.alloc _) ⟨wr.heap.size, 0, none⟩ 1 1 [.int .i64 x.acc, .int .i64 x.ast] rfl rfl ?_ ?_ ?_ ?_ ?_ ?_); exact new_cells wr 48 [.int .i64 x.acc, .int .i64 x.ast]; (simp [Value.oneCell']); (unfold maxLen; omega); (omega); (have := hbel.size; simp; omega); intro v1 w1 hown1 hg1 _)
      go_roundw
      case rel =>
        refine ⟨k + 1, by omega, by go_num, ?_, (hbel.alloc hbel.size _).grown hg1 (by have := hbel.size; simp; omega) (fun b hb => own_base hown hb)⟩
        rw [HTK.out, keysC, flat_snoc]
        exact hown1
      case measure => simp [intOf]; omega
    · obtain rfl : k = l.length := by omega
      rw [List.take_length] at hown
      go_wp2_with (fail)
      clear hlt hr hk
      go_loopw [3, 5] (fun v i w2 => ∃ k : Nat, k ≤ 16 ∧ i = .int .i64 k ∧ w2.ownsRow w.heap.size 48 2 v (l.length + k) (keysC (l ++ markKeyss.take k)) ∧ Below w.heap.size w w2) (fun _ i _ => 16 - (intOf i).toNat)
      case atStart => exact ⟨0, Nat.zero_le _, rfl, by rw [List.take_zero, List.append_nil]; exact hown, hbel⟩
      case round =>
        clear hown hbel
        obtain ⟨k, hk, rfl, hown, hbel⟩ := hrel
        by_cases hlt : k < 16
        · have htk := markKeys_cs k hlt
          have HTK := Lib.hid htk
          clear htk
          go_wp2_with (first | (go_at_call 53; refine (markKeys_calls _ _ _ ⟨by omega, by omega⟩).mono ?_; rintro e w1 ⟨rfl, hb1⟩; have hown1 := own_below hown hb1; have hsz := hb1.size) | ((at_builtin; refine wpList_append_own _ rfl (.tmp 23) (.tmp 26) 31 rfl w.heap.size 48 i0 _ 2 16 Tryd.underlying31 hi0 hz0 hz1 hz2 rfl (by decide) _ (l.length + k) (keysC (l ++ markKeyss.take k)) rfl (hown1.alloc _) ⟨w1.heap.size, 0, none⟩ 1 1 [.int .i64 (markKeys 90 (k : Int)).acc, .int .i64 (markKeys 90 (k : Int)).ast] rfl rfl ?_ ?_ ?_ ?_ ?_ ?_); exact new_cells w1 48 [.int .i64 (markKeys 90 (k : Int)).acc, .int .i64 (markKeys 90 (k : Int)).ast]; (simp [Value.oneCell']); (unfold maxLen; omega); (omega); (have := hbel.size; simp; omega); intro v1 w2 hown2 hg2 _))
          go_roundw
          case rel =>
            have hb3 := hbel.trans (hb1.mono hbel.size)
            refine ⟨k + 1, by omega, by go_num, ?_, (hb3.alloc hb3.size _).grown hg2 (by have := hb3.size; simp; omega) (fun b hb => own_base hown hb)⟩
            rw [HTK.out, ← List.append_assoc, keysC, flat_snoc, ← Nat.add_assoc]
            exact hown2
          case measure => simp [intOf]; omega
        · obtain rfl : k = 16 := by omega
          rw [show markKeyss.take 16 = markKeyss from rfl] at hown
          obtain ⟨g, cap, hv, _, _⟩ := hown.form (by omega)
          subst hv
          have hle := own_cap hown
          go_wp2
          go_ret
          exact ⟨g, cap, rfl, hle, hown, hbel⟩

/-- A list lent: n elements; behind them 16 marks. -/
def LentRowKeys (w : World) (l : List Key) (e : Ending) (w' : World) : Prop :=
  ∃ g c, e = .returned (.slice (some ⟨g, 0, none⟩) l.length c) ∧ l.length + 16 ≤ c ∧ w'.ownsRow w.heap.size 48 2 (.slice (some ⟨g, 0, none⟩) (l.length + 16) c) (l.length + 16) (keysC (l ++ markKeyss)) ∧ Below w.heap.size w w'
set_option maxRecDepth 100000 in
set_option maxHeartbeats 1000000 in
theorem lentKeys_calls (l : List Key) (A : Option Addr) (c B : Nat) (w : World) (hr : Reads w B 2 A l.length (keysC l)) (hB : B ≤ w.heap.size) (hlen : l.length * 16 ≤ 140737488351232) :
    Calls Tryd.prog 29 #[.slice A l.length c] w (LentRowKeys w l) := by
  go_enter Tryd.func29, Tryd.ntmps29
  go_wp2_with (go_at_call 41; refine (fullKeys_calls l A c B _ hr hB hlen).mono ?_; rintro e w1 ⟨g, cap, rfl, hle, hown, hb⟩; have hle2 : l.length ≤ cap := by omega)
  go_ret
  exact ⟨g, cap, rfl, hle, hown, hb⟩

theorem markKeys_at (l : List Key) (k : Nat) (h1 : l.length ≤ k) (h2 : k < (l ++ markKeyss).length) : (l ++ markKeyss)[k] = markKeys 90 ((k : Int) - (l.length : Int)) := by
  rw [List.getElem_append_right h1]
  simp [markKeyss, Int.natCast_sub h1]
set_option maxRecDepth 100000 in
set_option maxHeartbeats 4000000 in
theorem keptFullKeys_calls (l : List Key) (O A : Option Addr) (oc c B : Nat) (w : World) (ho : Reads w B 2 O (l.length + 16) (keysC (l ++ markKeyss))) (hr : Reads w B 2 A l.length (keysC l)) (hB : B ≤ w.heap.size) (hlen : l.length ≤ 140737488351232) :
    Calls Tryd.prog 47 #[.slice O (l.length + 16) oc, .slice A l.length c] w fun e w' => e = .returned (.bool true) ∧ Below w.heap.size w w' := by
  go_enter Tryd.func47, Tryd.ntmps47
  go_wp2_with (fail)
  have hL : (l ++ markKeyss).length = l.length + 16 := by rw [List.length_append, markKeyss_len]
  rw [← hL] at ho
  have HL := Lib.hid hL
  clear hL
  go_loopw [5] (fun i wr => ∃ k : Nat, k ≤ l.length + 16 ∧ i = .int .i64 k ∧ Below w.heap.size w wr) (fun i _ => l.length + 16 - (intOf i).toNat)
  case atStart => exact ⟨0, Nat.zero_le _, rfl, Below.refl _ _⟩
  case round =>
    obtain ⟨k, hk, rfl, hbel⟩ := hrel
    have hro := ho.below (hbel.mono hB)
    have hra := hr.below (hbel.mono hB)
    clear ho hr
    by_cases hlt : k < (l ++ markKeyss).length
    · have hlt2 : k < l.length + 16 := HL.out ▸ hlt
      obtain ⟨od, rfl, hodb, o0, o1⟩ := keys_at hro hlt
      clear hro
      by_cases hl : k < l.length
      · have hy : (l ++ markKeyss)[k]'(by rw [List.length_append, markKeyss_len]; omega) = l[k] := by rw [List.getElem_append_left hl]
        rw [hy] at o0 o1
        clear hy
        obtain ⟨ad, rfl, hadb, e0, e1⟩ := keys_at hra hl
        generalize hx : l[k] = x at e0 e1 o0 o1
        have HX := Lib.hid hx
        clear hx
        go_wp2_with (go_at_call 53; refine (markKeys_calls _ _ _ ⟨by omega, by omega⟩).mono ?_; rintro e w1 ⟨rfl, hb1⟩; have e0' := fun o => cell_alloc (cell_below hb1 e0) o; have e1' := fun o => cell_alloc (cell_below hb1 e1) o; have o0' := cell_below hb1 o0; have o1' := cell_below hb1 o1)
        obtain ⟨W2, hW2⟩ : ∃ W2, w1.alloc (.cells #[.int .i64 x.acc, .int .i64 x.ast] 48) = W2 := ⟨_, rfl⟩
        have b2 : Blk W2 w1.heap.size 48 #[.int .i64 x.acc, .int .i64 x.ast] := hW2 ▸ Blk.new _ _ _
        have hb2 : Below w1.heap.size w1 W2 := hW2 ▸ (Below.refl _ _).alloc (Nat.le_refl _) _
        have n0 := (b2.cell 0).trans (rfl : _ = some (Value.int .i64 x.acc))
        have n1 := (b2.cell 1).trans (rfl : _ = some (Value.int .i64 x.ast))
        have p0 := cell_below hb2 o0'
        have p1 := cell_below hb2 o1'
        rw [hW2]
        clear hW2 b2
        refine wp_region_class (InB W2) (by kernel_rfl) (by kernel_rfl) (InB.start _) ?_
        refine BigFrame.wpQuiet_want (by rfl) (fun K hK => ?_)
        refine quiet_value (.slice (some od) (l.length + 16) oc) (fun W hW => ?_) (hK _ ?_)
        · clear hK
          clear hW
          go_simp
        clear hK K
        simp only [Act.put, List.setIfInBounds_toArray, List.set_cons_zero, List.set_cons_succ]
        refine BigFrame.wpQuiet_want (by rfl) (fun K hK => ?_)
        refine quiet_value (.int .i64 k) (fun W hW => ?_) (hK _ ?_)
        · clear hK
          clear hW
          go_simp
        clear hK K
        simp only [Act.put, List.setIfInBounds_toArray, List.set_cons_zero, List.set_cons_succ]
        refine BigFrame.wpQuiet_want (by rfl) (fun K hK => ?_)
        refine quiet_value (.pointer (some (od.add (k * 2)))) (fun W hW => ?_) (hK _ ?_)
        · clear hK
          clear hW
          go_simp
        clear hK K
        simp only [Act.put, List.setIfInBounds_toArray, List.set_cons_zero, List.set_cons_succ]
        refine BigFrame.wpQuiet_want (by rfl) (fun K hK => ?_)
        refine quiet_value (.agg #[.int .i64 x.acc, .int .i64 x.ast]) (fun W hW => ?_) (hK _ ?_)
        · clear hK
          have q0 := hW.cell p0
          have q1 := hW.cell p1
          clear hW
          go_simp
        clear hK K
        simp only [Act.put, List.setIfInBounds_toArray, List.set_cons_zero, List.set_cons_succ]
        refine BigFrame.wpQuiet_want (by rfl) (fun K hK => ?_)
        refine quiet_value (.agg #[.int .i64 x.acc, .int .i64 x.ast]) (fun W hW => ?_) (hK _ ?_)
        · clear hK
          have q0 := hW.cell n0
          have q1 := hW.cell n1
          clear hW
          go_simp
        clear hK K
        simp only [Act.put, List.setIfInBounds_toArray, List.set_cons_zero, List.set_cons_succ]
        refine BigFrame.wpQuiet_want (by rfl) (fun K hK => ?_)
        refine quiet_value (.bool false) (fun W hW => ?_) (hK _ ?_)
        · clear hK
          clear hW
          go_simp
        clear hK K
        simp only [Act.put, List.setIfInBounds_toArray, List.set_cons_zero, List.set_cons_succ]
        refine wpQuiet_nil ?_
        intro W3 hiW3
        have hb4 := hbel.trans ((hb1.trans (hb2.mono hb1.size)).mono hbel.size)
        have hb5 := hb4.trans (Below.mono hiW3 hb4.size)
        go_wp2
        go_roundw
        case rel => exact ⟨k + 1, by omega, by go_num, hb5⟩
        case measure => simp [intOf]; omega
      · have hy := markKeys_at l k (by omega) hlt
        rw [hy] at o0 o1
        clear hy
        go_wp2_with (go_at_call 53; refine (markKeys_calls _ _ _ ⟨by omega, by omega⟩).mono ?_; rintro e w1 ⟨rfl, hb1⟩; have o0' := cell_below hb1 o0; have o1' := cell_below hb1 o1)
        obtain ⟨W2, hW2⟩ : ∃ W2, w1.alloc (.cells #[.int .i64 (markKeys 90 ((k : Int) - (l.length : Int))).acc, .int .i64 (markKeys 90 ((k : Int) - (l.length : Int))).ast] 48) = W2 := ⟨_, rfl⟩
        have b2 : Blk W2 w1.heap.size 48 #[.int .i64 (markKeys 90 ((k : Int) - (l.length : Int))).acc, .int .i64 (markKeys 90 ((k : Int) - (l.length : Int))).ast] := hW2 ▸ Blk.new _ _ _
        have hb2 : Below w1.heap.size w1 W2 := hW2 ▸ (Below.refl _ _).alloc (Nat.le_refl _) _
        have n0 := (b2.cell 0).trans (rfl : _ = some (Value.int .i64 (markKeys 90 ((k : Int) - (l.length : Int))).acc))
        have n1 := (b2.cell 1).trans (rfl : _ = some (Value.int .i64 (markKeys 90 ((k : Int) - (l.length : Int))).ast))
        have p0 := cell_below hb2 o0'
        have p1 := cell_below hb2 o1'
        rw [hW2]
        clear hW2 b2
        refine wp_region_class (InB W2) (by kernel_rfl) (by kernel_rfl) (InB.start _) ?_
        refine BigFrame.wpQuiet_want (by rfl) (fun K hK => ?_)
        refine quiet_value (.slice (some od) (l.length + 16) oc) (fun W hW => ?_) (hK _ ?_)
        · clear hK
          clear hW
          go_simp
        clear hK K
        simp only [Act.put, List.setIfInBounds_toArray, List.set_cons_zero, List.set_cons_succ]
        refine BigFrame.wpQuiet_want (by rfl) (fun K hK => ?_)
        refine quiet_value (.int .i64 k) (fun W hW => ?_) (hK _ ?_)
        · clear hK
          clear hW
          go_simp
        clear hK K
        simp only [Act.put, List.setIfInBounds_toArray, List.set_cons_zero, List.set_cons_succ]
        refine BigFrame.wpQuiet_want (by rfl) (fun K hK => ?_)
        refine quiet_value (.pointer (some (od.add (k * 2)))) (fun W hW => ?_) (hK _ ?_)
        · clear hK
          clear hW
          go_simp
        clear hK K
        simp only [Act.put, List.setIfInBounds_toArray, List.set_cons_zero, List.set_cons_succ]
        refine BigFrame.wpQuiet_want (by rfl) (fun K hK => ?_)
        refine quiet_value (.agg #[.int .i64 (markKeys 90 ((k : Int) - (l.length : Int))).acc, .int .i64 (markKeys 90 ((k : Int) - (l.length : Int))).ast]) (fun W hW => ?_) (hK _ ?_)
        · clear hK
          have q0 := hW.cell p0
          have q1 := hW.cell p1
          clear hW
          go_simp
        clear hK K
        simp only [Act.put, List.setIfInBounds_toArray, List.set_cons_zero, List.set_cons_succ]
        refine BigFrame.wpQuiet_want (by rfl) (fun K hK => ?_)
        refine quiet_value (.agg #[.int .i64 (markKeys 90 ((k : Int) - (l.length : Int))).acc, .int .i64 (markKeys 90 ((k : Int) - (l.length : Int))).ast]) (fun W hW => ?_) (hK _ ?_)
        · clear hK
          have q0 := hW.cell n0
          have q1 := hW.cell n1
          clear hW
          go_simp
        clear hK K
        simp only [Act.put, List.setIfInBounds_toArray, List.set_cons_zero, List.set_cons_succ]
        refine BigFrame.wpQuiet_want (by rfl) (fun K hK => ?_)
        refine quiet_value (.bool false) (fun W hW => ?_) (hK _ ?_)
        · clear hK
          clear hW
          go_simp
        clear hK K
        simp only [Act.put, List.setIfInBounds_toArray, List.set_cons_zero, List.set_cons_succ]
        refine wpQuiet_nil ?_
        intro W3 hiW3
        have hb4 := hbel.trans ((hb1.trans (hb2.mono hb1.size)).mono hbel.size)
        have hb5 := hb4.trans (Below.mono hiW3 hb4.size)
        go_wp2
        go_roundw
        case rel => exact ⟨k + 1, by omega, by go_num, hb5⟩
        case measure => simp [intOf]; omega
    · obtain rfl : k = l.length + 16 := by have := HL.out; omega
      go_wp2
      go_ret
      exact ⟨rfl, hbel⟩

set_option maxRecDepth 100000 in
set_option maxHeartbeats 1000000 in
theorem keptKeys_calls (l : List Key) (g : Nat) (A : Option Addr) (oc c B : Nat) (w : World) (ho : Reads w B 2 (some ⟨g, 0, none⟩) (l.length + 16) (keysC (l ++ markKeyss))) (hoc : l.length + 16 ≤ oc) (hr : Reads w B 2 A l.length (keysC l)) (hB : B ≤ w.heap.size) (hlen : l.length ≤ 140737488351232) :
    Calls Tryd.prog 36 #[.slice (some ⟨g, 0, none⟩) l.length oc, .slice A l.length c] w fun e w' => e = .returned (.bool true) ∧ Below w.heap.size w w' := by
  go_enter Tryd.func36, Tryd.ntmps36
  go_wp2_with (go_at_call 47; refine (keptFullKeys_calls l _ _ _ _ B _ ho hr hB hlen).mono ?_; rintro e w1 ⟨rfl, hb⟩)
  go_ret
  exact ⟨rfl, hb⟩
end Go.Proofs.YtmcknfpohnobdaaDoor
