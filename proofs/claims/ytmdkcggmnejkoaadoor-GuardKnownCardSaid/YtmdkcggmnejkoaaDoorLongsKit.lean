/- custodykit's lists of the kind Longs: marks, lent lists, and whether they were kept, by contracts. -/
import Derived.Test.YtmdkcggmnejkoaaDoorKit0
namespace Go.Proofs.YtmdkcggmnejkoaaDoor
set_option linter.unusedSimpArgs false
set_option linter.unusedVariables false
open Go.RowKit

def markLongs (k i : Int) : Int := mkI k i
def markLongss : List Int := (List.range 16).map fun (j : Nat) => markLongs 90 (j : Int)
theorem markLongss_len : markLongss.length = 16 := rfl
theorem infoLongs : (Tryd.prog.info? 2).map (fun i => (i.zero, i.size, i.bytes)) = some (some (.int .i64 0), 1, 8) := by kernel_rfl

set_option maxRecDepth 100000 in
theorem markLongs_calls (k i : Int) (w : World) (hk : 0 ≤ k ∧ k ≤ 100000) (hi : -562949953421312 ≤ i ∧ i ≤ 562949953421312) : Calls Tryd.prog 49 #[.int .i64 k, .int .i64 i] w fun e w' => e = .returned (.int .i64 (markLongs k i)) ∧ Below w.heap.size w w' := by
  obtain ⟨hk0, hk1⟩ := hk
  obtain ⟨hi0, hi1⟩ := hi
  go_enter Tryd.func49, Tryd.ntmps49
  go_wp2
  go_ret
  exact ⟨rfl, Below.refl _ _⟩

theorem markLongs_cs (j : Nat) (hj : j < 16) : markLongss.take (j + 1) = markLongss.take j ++ [markLongs 90 (j : Int)] := by
  rw [List.take_succ_eq_append_getElem (by rw [markLongss_len]; exact hj)]
  simp [markLongss]

set_option maxRecDepth 100000 in
set_option maxHeartbeats 4000000 in
theorem fullLongs_calls (l : List Int) (A : Option Addr) (c B : Nat) (w : World) (hr : Reads w B 1 A l.length (intsC l)) (hB : B ≤ w.heap.size) (hlen : l.length * 8 ≤ 140737488351232) :
    Calls Tryd.prog 57 #[.slice A l.length c] w (NewRow w 2 1 (l.length + 16) (intsC (l ++ markLongss))) := by
  obtain ⟨i0, hi0, hz0, hz1, hz2⟩ := info_parts infoLongs
  go_enter Tryd.func57, Tryd.ntmps57
  go_wp2_with (fail)
  go_loopw [3, 4] (fun v i wr => ∃ k : Nat, k ≤ l.length ∧ i = .int .i64 k ∧ wr.ownsRow w.heap.size 2 1 v k (intsC (l.take k)) ∧ Below w.heap.size w wr) (fun _ i _ => l.length - (intOf i).toNat)
  case atStart => exact ⟨0, Nat.zero_le _, rfl, World.ownsRow_nil _ _ _ _, Below.refl _ _⟩
  case round =>
    obtain ⟨k, hk, rfl, hown, hbel⟩ := hrel
    by_cases hlt : k < l.length
    · obtain ⟨ad, rfl, hadb, e0⟩ := ints_at (hr.below (hbel.mono hB)) hlt
      have htk : l.take (k + 1) = l.take k ++ [l[k]] := by rw [List.take_succ_eq_append_getElem hlt]
      have HTK := Lib.hid htk
      clear htk
      generalize hx : l[k] = x at e0 HTK
      have HX := Lib.hid hx
      clear hx hr
      go_wp2_with ((at_builtin; refine wpList_append_own _ rfl (.tmp 12) (.tmp 17) 34 rfl w.heap.size 2 i0 _ 1 8 Tryd.underlying34 hi0 hz0 hz1 hz2 rfl (by decide) _ (k) (intsC (l.take k)) rfl (hown.alloc _) ⟨wr.heap.size, 0, none⟩ 1 1 [.int .i64 x] rfl rfl ?_ ?_ ?_ ?_ ?_ ?_); exact new_cells wr 2 [.int .i64 x]; (simp [Value.oneCell']); (unfold maxLen; omega); (omega); (have := hbel.size; simp; omega); intro v1 w1 hown1 hg1 _)
      go_roundw
      case rel =>
        refine ⟨k + 1, by omega, by go_num, ?_, (hbel.alloc hbel.size _).grown hg1 (by have := hbel.size; simp; omega) (fun b hb => own_base hown hb)⟩
        rw [HTK.out, intsC, flat_snoc]
        exact hown1
      case measure => simp [intOf]; omega
    · obtain rfl : k = l.length := by omega
      rw [List.take_length] at hown
      go_wp2_with (fail)
      clear hlt hr hk
      go_loopw [3, 5] (fun v i w2 => ∃ k : Nat, k ≤ 16 ∧ i = .int .i64 k ∧ w2.ownsRow w.heap.size 2 1 v (l.length + k) (intsC (l ++ markLongss.take k)) ∧ Below w.heap.size w w2) (fun _ i _ => 16 - (intOf i).toNat)
      case atStart => exact ⟨0, Nat.zero_le _, rfl, by rw [List.take_zero, List.append_nil]; exact hown, hbel⟩
      case round =>
        clear hown hbel
        obtain ⟨k, hk, rfl, hown, hbel⟩ := hrel
        by_cases hlt : k < 16
        · have htk := markLongs_cs k hlt
          have HTK := Lib.hid htk
          clear htk
          go_wp2_with (first | (go_at_call 49; refine (markLongs_calls _ _ _ ⟨by omega, by omega⟩ ⟨by omega, by omega⟩).mono ?_; rintro e w1 ⟨rfl, hb1⟩; have hown1 := own_below hown hb1; have hsz := hb1.size) | ((at_builtin; refine wpList_append_own _ rfl (.tmp 23) (.tmp 26) 34 rfl w.heap.size 2 i0 _ 1 8 Tryd.underlying34 hi0 hz0 hz1 hz2 rfl (by decide) _ (l.length + k) (intsC (l ++ markLongss.take k)) rfl (hown1.alloc _) ⟨w1.heap.size, 0, none⟩ 1 1 [.int .i64 (markLongs 90 (k : Int))] rfl rfl ?_ ?_ ?_ ?_ ?_ ?_); exact new_cells w1 2 [.int .i64 (markLongs 90 (k : Int))]; (simp [Value.oneCell']); (unfold maxLen; omega); (omega); (have := hbel.size; simp; omega); intro v1 w2 hown2 hg2 _))
          go_roundw
          case rel =>
            have hb3 := hbel.trans (hb1.mono hbel.size)
            refine ⟨k + 1, by omega, by go_num, ?_, (hb3.alloc hb3.size _).grown hg2 (by have := hb3.size; simp; omega) (fun b hb => own_base hown hb)⟩
            rw [HTK.out, ← List.append_assoc, intsC, flat_snoc, ← Nat.add_assoc]
            exact hown2
          case measure => simp [intOf]; omega
        · obtain rfl : k = 16 := by omega
          rw [show markLongss.take 16 = markLongss from rfl] at hown
          obtain ⟨g, cap, hv, _, _⟩ := hown.form (by omega)
          subst hv
          have hle := own_cap hown
          go_wp2
          go_ret
          exact ⟨g, cap, rfl, hle, hown, hbel⟩

/-- A list lent: n elements; behind them 16 marks. -/
def LentRowLongs (w : World) (l : List Int) (e : Ending) (w' : World) : Prop :=
  ∃ g c, e = .returned (.slice (some ⟨g, 0, none⟩) l.length c) ∧ l.length + 16 ≤ c ∧ w'.ownsRow w.heap.size 2 1 (.slice (some ⟨g, 0, none⟩) (l.length + 16) c) (l.length + 16) (intsC (l ++ markLongss)) ∧ Below w.heap.size w w'
set_option maxRecDepth 100000 in
set_option maxHeartbeats 1000000 in
theorem lentLongs_calls (l : List Int) (A : Option Addr) (c B : Nat) (w : World) (hr : Reads w B 1 A l.length (intsC l)) (hB : B ≤ w.heap.size) (hlen : l.length * 8 ≤ 140737488351232) :
    Calls Tryd.prog 25 #[.slice A l.length c] w (LentRowLongs w l) := by
  go_enter Tryd.func25, Tryd.ntmps25
  go_wp2_with (go_at_call 57; refine (fullLongs_calls l A c B _ hr hB hlen).mono ?_; rintro e w1 ⟨g, cap, rfl, hle, hown, hb⟩; have hle2 : l.length ≤ cap := by omega)
  go_ret
  exact ⟨g, cap, rfl, hle, hown, hb⟩

theorem markLongs_at (l : List Int) (k : Nat) (h1 : l.length ≤ k) (h2 : k < (l ++ markLongss).length) : (l ++ markLongss)[k] = markLongs 90 ((k : Int) - (l.length : Int)) := by
  rw [List.getElem_append_right h1]
  simp [markLongss, Int.natCast_sub h1]
set_option maxRecDepth 100000 in
set_option maxHeartbeats 4000000 in
theorem keptFullLongs_calls (l : List Int) (O A : Option Addr) (oc c B : Nat) (w : World) (ho : Reads w B 1 O (l.length + 16) (intsC (l ++ markLongss))) (hr : Reads w B 1 A l.length (intsC l)) (hB : B ≤ w.heap.size) (hlen : l.length ≤ 140737488351232) :
    Calls Tryd.prog 62 #[.slice O (l.length + 16) oc, .slice A l.length c] w fun e w' => e = .returned (.bool true) ∧ Below w.heap.size w w' := by
  go_enter Tryd.func62, Tryd.ntmps62
  go_wp2_with (fail)
  have hL : (l ++ markLongss).length = l.length + 16 := by rw [List.length_append, markLongss_len]
  rw [← hL] at ho
  have HL := Lib.hid hL
  clear hL
  go_loopw [5] (fun i wr => ∃ k : Nat, k ≤ l.length + 16 ∧ i = .int .i64 k ∧ Below w.heap.size w wr) (fun i _ => l.length + 16 - (intOf i).toNat)
  case atStart => exact ⟨0, Nat.zero_le _, rfl, Below.refl _ _⟩
  case round =>
    obtain ⟨k, hk, rfl, hbel⟩ := hrel
    have hro := ho.below (hbel.mono hB)
    have hra := hr.below (hbel.mono hB)
    clear ho hr
    by_cases hlt : k < (l ++ markLongss).length
    · have hlt2 : k < l.length + 16 := HL.out ▸ hlt
      obtain ⟨od, rfl, hodb, o0⟩ := ints_at hro hlt
      clear hro
      by_cases hl : k < l.length
      · have hy : (l ++ markLongss)[k]'(by rw [List.length_append, markLongss_len]; omega) = l[k] := by rw [List.getElem_append_left hl]
        rw [hy] at o0
        clear hy
        obtain ⟨ad, rfl, hadb, e0⟩ := ints_at hra hl
        generalize hx : l[k] = x at e0 o0
        have HX := Lib.hid hx
        clear hx
        go_wp2_with (go_at_call 49; refine (markLongs_calls _ _ _ ⟨by omega, by omega⟩ ⟨by omega, by omega⟩).mono ?_; rintro e w1 ⟨rfl, hb1⟩; have e0' := cell_below hb1 e0; have o0' := cell_below hb1 o0)
        have hb5 := hbel.trans (hb1.mono hbel.size)
        go_roundw
        case rel => exact ⟨k + 1, by omega, by go_num, hb5⟩
        case measure => simp [intOf]; omega
      · have hy := markLongs_at l k (by omega) hlt
        rw [hy] at o0
        clear hy
        go_wp2_with (go_at_call 49; refine (markLongs_calls _ _ _ ⟨by omega, by omega⟩ ⟨by omega, by omega⟩).mono ?_; rintro e w1 ⟨rfl, hb1⟩; have o0' := cell_below hb1 o0)
        have hb5 := hbel.trans (hb1.mono hbel.size)
        go_roundw
        case rel => exact ⟨k + 1, by omega, by go_num, hb5⟩
        case measure => simp [intOf]; omega
    · obtain rfl : k = l.length + 16 := by have := HL.out; omega
      go_wp2
      go_ret
      exact ⟨rfl, hbel⟩

set_option maxRecDepth 100000 in
set_option maxHeartbeats 1000000 in
theorem keptLongs_calls (l : List Int) (g : Nat) (A : Option Addr) (oc c B : Nat) (w : World) (ho : Reads w B 1 (some ⟨g, 0, none⟩) (l.length + 16) (intsC (l ++ markLongss))) (hoc : l.length + 16 ≤ oc) (hr : Reads w B 1 A l.length (intsC l)) (hB : B ≤ w.heap.size) (hlen : l.length ≤ 140737488351232) :
    Calls Tryd.prog 28 #[.slice (some ⟨g, 0, none⟩) l.length oc, .slice A l.length c] w fun e w' => e = .returned (.bool true) ∧ Below w.heap.size w w' := by
  go_enter Tryd.func28, Tryd.ntmps28
  go_wp2_with (go_at_call 62; refine (keptFullLongs_calls l _ _ _ _ B _ ho hr hB hlen).mono ?_; rintro e w1 ⟨rfl, hb⟩)
  go_ret
  exact ⟨rfl, hb⟩
end Go.Proofs.YtmdkcggmnejkoaaDoor
