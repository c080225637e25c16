/- StoreKnown: few, many (printed by gen_km11.py). -/
import Derived.Test.YtflkddllofeiaaaGreatDoorScS
import Derived.BigQuiet
import Derived.IntWalk
namespace Go.Proofs.YtflkddllofeiaaaGreatDoor
open Go.RowKit Go.MapKept Go.ChangeMaps Go.Maps
set_option linter.unusedVariables false
set_option linter.unusedSimpArgs false

structure Cs11 (w0 w : World) (v : Value) (cs : List CallV) : Prop where
  row : w.ownsRow w0.heap.size 35 6 v cs.length (cs.flatMap CallV.cs)
  wf : ∀ x ∈ cs, wfI x.n
  bel : Below w0.heap.size w0 w
theorem infoCall : (Tryz.prog.info? 35).map (fun i => (i.zero, i.size, i.bytes)) = some (some (.agg #[.int .i64 0, .int .i64 0, .int .i64 0, .int .i64 0, .int .i64 0, .string ⟨#[]⟩]), 6, 56) := by kernel_rfl
section
variable {w0 w w2 : World} {v v' : Value} {cs : List CallV}
theorem Cs11.push {o : Obj} (h : Cs11 w0 w v cs) (X : List CallV) (hX : ∀ x ∈ X, wfI x.n) (hO : w2.ownsRow w0.heap.size 35 6 v' (cs.length + X.length) (cs.flatMap CallV.cs ++ X.flatMap CallV.cs)) (hg : (w.alloc o).grownBy w2 v.ownBlock) : Cs11 w0 w2 v' (cs ++ X) := by
  have hg2 : But w w2 (fun i => v.ownBlock = some i) := ((But.refl w _).alloc o).grown hg (fun i _ e => e)
  refine ⟨by rw [List.length_append, List.flatMap_append]; exact hO, fun x hx => ?_, h.bel.trans (hg2.to_below (fun i hi => own_base h.row hi) h.bel.size)⟩
  rcases List.mem_append.1 hx with hx | hx
  · exact h.wf x hx
  · exact hX x hx
end
set_option maxRecDepth 100000 in
set_option maxHeartbeats 8000000 in
theorem many11_calls (w0 : World) (hG : HG w0) : Calls Tryz.prog 54 #[] w0 fun e w' => e = .returned (.bool true) ∧ Below w0.heap.size w0 w' := by
  obtain ⟨iO, hiO, hz0, hz1, hz2⟩ := info_parts infoCall
  have HGG := Lib.hid hG
  clear hG
  have hO0 : Cs11 w0 w0 (.slice none 0 0) [] := ⟨World.ownsRow_nil _ _ _ _, (fun x hx => by cases hx), Below.refl _ _⟩
  have HO1 := Lib.hid hO0
  clear hO0
  go_enter Tryz.func54, Tryz.ntmps54
  go_wp2_with (fail)
  go_loopw [1, 2] (fun s1 i wr => ∃ (k : Nat) (cs : List CallV) (v : Value), k ≤ 24 ∧ s1 = v ∧ i = .int .i64 k ∧ Cs11 w0 wr v cs ∧ cs.length ≤ 3 * k) (fun _ i _ => 24 - (intOf i).toNat)
  case atStart => exact ⟨0, [], _, by omega, rfl, rfl, HO1.out, Nat.le_refl _⟩
  case round =>
    clear HO1
    obtain ⟨k, cs, v, hk, rfl, rfl, hO, hol⟩ := hrel
    obtain ⟨VA, vc, rfl⟩ := own_slice hO.row
    have HO := Lib.hid hO
    clear hO
    by_cases hlt : k < 24
    · have hkl : (k : Int) < 24 := by omega
      have HMX := Lib.hid (show cs.length + 3 ≤ maxLen by unfold maxLen; omega)
      have HMB := Lib.hid (show (cs.length + 3) * 56 ≤ 140737488355328 by omega)
      have hw : IntKind.i64.wrap (2 * (k : Int)) = 2 * (k : Int) := by rw [IntKind.wrap_i64]; omega
      have HWF := Lib.hid (show ∀ x ∈ ([⟨0, 0, ⟨0, 0⟩, (2 * (k : Int)), ⟨#[118]⟩⟩, ⟨0, 8, ⟨0, 0⟩, 0, ⟨#[]⟩⟩, ⟨0, 1, ⟨0, 0⟩, k, ⟨#[]⟩⟩] : List CallV), wfI x.n from (List.forall_mem_cons.2 ⟨(wfI_of (by simp only []; omega) (by simp only []; omega)), (List.forall_mem_cons.2 ⟨(wfI_of (by simp only []; omega) (by simp only []; omega)), (List.forall_mem_cons.2 ⟨(wfI_of (by simp only []; omega) (by simp only []; omega)), (fun _ h => by cases h)⟩)⟩)⟩))
      go_wp2_with (at_builtin; refine wpList_append_own _ rfl (.tmp 10) (.tmp 17) 22 rfl w0.heap.size 35 iO _ 6 56 Tryz.underlying22 hiO hz0 hz1 hz2 rfl (by decide) _ cs.length (cs.flatMap CallV.cs) rfl (HO.out.row.alloc _) ⟨wr.heap.size, 0, none⟩ 3 3 [.int .i64 0, .int .i64 0, .int .i64 0, .int .i64 0, .int .i64 (2 * (k : Int)), .string ⟨#[118]⟩, .int .i64 0, .int .i64 8, .int .i64 0, .int .i64 0, .int .i64 0, .string ⟨#[]⟩, .int .i64 0, .int .i64 1, .int .i64 0, .int .i64 0, .int .i64 k, .string ⟨#[]⟩] rfl rfl ?_ ?_ ?_ ?_ ?_ ?_; exact new_cells wr 35 [.int .i64 0, .int .i64 0, .int .i64 0, .int .i64 0, .int .i64 (2 * (k : Int)), .string ⟨#[118]⟩, .int .i64 0, .int .i64 8, .int .i64 0, .int .i64 0, .int .i64 0, .string ⟨#[]⟩, .int .i64 0, .int .i64 1, .int .i64 0, .int .i64 0, .int .i64 k, .string ⟨#[]⟩]; (simp [Value.oneCell']); exact HMX.out; exact HMB.out; (have := HO.out.bel.size; simp; omega); intro v2 w2 hown hg _; have hP := HO.out.push [⟨0, 0, ⟨0, 0⟩, (2 * (k : Int)), ⟨#[118]⟩⟩, ⟨0, 8, ⟨0, 0⟩, 0, ⟨#[]⟩⟩, ⟨0, 1, ⟨0, 0⟩, k, ⟨#[]⟩⟩] HWF.out hown hg; have HP := Lib.hid hP; clear hown hg hP)
      go_roundw
      case rel => exact ⟨k + 1, _, _, by omega, rfl, by go_num, HP.out, by simp; omega⟩
      case measure => simp [intOf]; omega
    · have hkl : ¬ (k : Int) < 24 := by omega
      obtain ⟨wo, rfl⟩ : ∃ wo : World, wo = wr := ⟨_, rfl⟩
      have HMX := Lib.hid (show cs.length + 4 ≤ maxLen by unfold maxLen; omega)
      have HMB := Lib.hid (show (cs.length + 4) * 56 ≤ 140737488355328 by omega)
      have HWF := Lib.hid (show ∀ x ∈ ([⟨0, 4, ⟨0, 0⟩, 9, ⟨#[]⟩⟩, ⟨0, 7, ⟨0, 0⟩, 40, ⟨#[]⟩⟩, ⟨0, 8, ⟨0, 0⟩, 0, ⟨#[]⟩⟩, ⟨0, 5, ⟨0, 0⟩, 1, ⟨#[]⟩⟩] : List CallV), wfI x.n from (List.forall_mem_cons.2 ⟨(wfI_of (by simp only []; omega) (by simp only []; omega)), (List.forall_mem_cons.2 ⟨(wfI_of (by simp only []; omega) (by simp only []; omega)), (List.forall_mem_cons.2 ⟨(wfI_of (by simp only []; omega) (by simp only []; omega)), (List.forall_mem_cons.2 ⟨(wfI_of (by simp only []; omega) (by simp only []; omega)), (fun _ h => by cases h)⟩)⟩)⟩)⟩))
      go_wp2_with (at_builtin; refine wpList_append_own _ rfl (.tmp 19) (.tmp 24) 22 rfl w0.heap.size 35 iO _ 6 56 Tryz.underlying22 hiO hz0 hz1 hz2 rfl (by decide) _ cs.length (cs.flatMap CallV.cs) rfl (HO.out.row.alloc _) ⟨wo.heap.size, 0, none⟩ 4 4 [.int .i64 0, .int .i64 4, .int .i64 0, .int .i64 0, .int .i64 9, .string ⟨#[]⟩, .int .i64 0, .int .i64 7, .int .i64 0, .int .i64 0, .int .i64 40, .string ⟨#[]⟩, .int .i64 0, .int .i64 8, .int .i64 0, .int .i64 0, .int .i64 0, .string ⟨#[]⟩, .int .i64 0, .int .i64 5, .int .i64 0, .int .i64 0, .int .i64 1, .string ⟨#[]⟩] rfl rfl ?_ ?_ ?_ ?_ ?_ ?_; exact new_cells wo 35 [.int .i64 0, .int .i64 4, .int .i64 0, .int .i64 0, .int .i64 9, .string ⟨#[]⟩, .int .i64 0, .int .i64 7, .int .i64 0, .int .i64 0, .int .i64 40, .string ⟨#[]⟩, .int .i64 0, .int .i64 8, .int .i64 0, .int .i64 0, .int .i64 0, .string ⟨#[]⟩, .int .i64 0, .int .i64 5, .int .i64 0, .int .i64 0, .int .i64 1, .string ⟨#[]⟩]; (simp [Value.oneCell']); exact HMX.out; exact HMB.out; (have := HO.out.bel.size; simp; omega); intro v2 w2 hown hg _; have hP := HO.out.push [⟨0, 4, ⟨0, 0⟩, 9, ⟨#[]⟩⟩, ⟨0, 7, ⟨0, 0⟩, 40, ⟨#[]⟩⟩, ⟨0, 8, ⟨0, 0⟩, 0, ⟨#[]⟩⟩, ⟨0, 5, ⟨0, 0⟩, 1, ⟨#[]⟩⟩] HWF.out hown hg; have HP := Lib.hid hP; clear hown hg hP)
      go_loopw [1, 3] (fun s1 i wr => ∃ (k : Nat) (cs : List CallV) (v : Value), k ≤ 52 ∧ s1 = v ∧ i = .int .i64 k ∧ Cs11 w0 wr v cs ∧ cs.length ≤ 76 + 5 * k) (fun _ i _ => 52 - (intOf i).toNat)
      case atStart => exact ⟨0, _, _, by omega, rfl, rfl, HP.out, by simp <;> omega⟩
      case round =>
        clear HP hol
        obtain ⟨k, cs, v, hk, rfl, rfl, hO, hol⟩ := hrel
        obtain ⟨VA, vc, rfl⟩ := own_slice hO.row
        have HO := Lib.hid hO
        clear hO
        by_cases hlt : k < 50
        · have hkl : (k : Int) < 50 := by omega
          have HMX := Lib.hid (show cs.length + 5 ≤ maxLen by unfold maxLen; omega)
          have HMB := Lib.hid (show (cs.length + 5) * 56 ≤ 140737488355328 by omega)
          have hw : IntKind.i64.wrap ((k : Int) - 1) = (k : Int) - 1 := by rw [IntKind.wrap_i64]; omega
          have HWF := Lib.hid (show ∀ x ∈ ([⟨0, 7, ⟨0, 0⟩, k, ⟨#[]⟩⟩, ⟨0, 8, ⟨0, 0⟩, 0, ⟨#[]⟩⟩, ⟨0, 1, ⟨0, 0⟩, k, ⟨#[]⟩⟩, ⟨0, 1, ⟨0, 0⟩, ((k : Int) - 1), ⟨#[]⟩⟩, ⟨0, 2, ⟨0, 0⟩, 0, ⟨#[]⟩⟩] : List CallV), wfI x.n from (List.forall_mem_cons.2 ⟨(wfI_of (by simp only []; omega) (by simp only []; omega)), (List.forall_mem_cons.2 ⟨(wfI_of (by simp only []; omega) (by simp only []; omega)), (List.forall_mem_cons.2 ⟨(wfI_of (by simp only []; omega) (by simp only []; omega)), (List.forall_mem_cons.2 ⟨(wfI_of (by simp only []; omega) (by simp only []; omega)), (List.forall_mem_cons.2 ⟨(wfI_of (by simp only []; omega) (by simp only []; omega)), (fun _ h => by cases h)⟩)⟩)⟩)⟩)⟩))
          go_wp2_with (at_builtin; refine wpList_append_own _ rfl (.tmp 30) (.tmp 40) 22 rfl w0.heap.size 35 iO _ 6 56 Tryz.underlying22 hiO hz0 hz1 hz2 rfl (by decide) _ cs.length (cs.flatMap CallV.cs) rfl (HO.out.row.alloc _) ⟨wr.heap.size, 0, none⟩ 5 5 [.int .i64 0, .int .i64 7, .int .i64 0, .int .i64 0, .int .i64 k, .string ⟨#[]⟩, .int .i64 0, .int .i64 8, .int .i64 0, .int .i64 0, .int .i64 0, .string ⟨#[]⟩, .int .i64 0, .int .i64 1, .int .i64 0, .int .i64 0, .int .i64 k, .string ⟨#[]⟩, .int .i64 0, .int .i64 1, .int .i64 0, .int .i64 0, .int .i64 ((k : Int) - 1), .string ⟨#[]⟩, .int .i64 0, .int .i64 2, .int .i64 0, .int .i64 0, .int .i64 0, .string ⟨#[]⟩] rfl rfl ?_ ?_ ?_ ?_ ?_ ?_; exact new_cells wr 35 [.int .i64 0, .int .i64 7, .int .i64 0, .int .i64 0, .int .i64 k, .string ⟨#[]⟩, .int .i64 0, .int .i64 8, .int .i64 0, .int .i64 0, .int .i64 0, .string ⟨#[]⟩, .int .i64 0, .int .i64 1, .int .i64 0, .int .i64 0, .int .i64 k, .string ⟨#[]⟩, .int .i64 0, .int .i64 1, .int .i64 0, .int .i64 0, .int .i64 ((k : Int) - 1), .string ⟨#[]⟩, .int .i64 0, .int .i64 2, .int .i64 0, .int .i64 0, .int .i64 0, .string ⟨#[]⟩]; (simp [Value.oneCell']); exact HMX.out; exact HMB.out; (have := HO.out.bel.size; simp; omega); intro v2 w2 hown hg _; have hP := HO.out.push [⟨0, 7, ⟨0, 0⟩, k, ⟨#[]⟩⟩, ⟨0, 8, ⟨0, 0⟩, 0, ⟨#[]⟩⟩, ⟨0, 1, ⟨0, 0⟩, k, ⟨#[]⟩⟩, ⟨0, 1, ⟨0, 0⟩, ((k : Int) - 1), ⟨#[]⟩⟩, ⟨0, 2, ⟨0, 0⟩, 0, ⟨#[]⟩⟩] HWF.out hown hg; have HP := Lib.hid hP; clear hown hg hP)
          go_roundw
          case rel => exact ⟨k + 3, _, _, by omega, rfl, by go_num, HP.out, by simp; omega⟩
          case measure => simp [intOf]; omega
        · have hkl : ¬ (k : Int) < 50 := by omega
          obtain ⟨wo, rfl⟩ : ∃ wo : World, wo = wr := ⟨_, rfl⟩
          go_wp2_with (fail)
          go_loopw [1, 4] (fun s1 i wr => ∃ (k : Nat) (cs : List CallV) (v : Value), k ≤ 9 ∧ s1 = v ∧ i = .int .i64 k ∧ Cs11 w0 wr v cs ∧ cs.length ≤ 400 + 2 * k) (fun _ i _ => 9 - (intOf i).toNat)
          case atStart => exact ⟨0, _, _, by omega, rfl, rfl, HO.out, by simp <;> omega⟩
          case round =>
            clear HO hol
            obtain ⟨k, cs, v, hk, rfl, rfl, hO, hol⟩ := hrel
            obtain ⟨VA, vc, rfl⟩ := own_slice hO.row
            have HO := Lib.hid hO
            clear hO
            by_cases hlt : k < 9
            · have hkl : (k : Int) < 9 := by omega
              have HMX := Lib.hid (show cs.length + 2 ≤ maxLen by unfold maxLen; omega)
              have HMB := Lib.hid (show (cs.length + 2) * 56 ≤ 140737488355328 by omega)
              have hw : IntKind.i64.wrap (5 * (k : Int)) = 5 * (k : Int) := by rw [IntKind.wrap_i64]; omega
              have hw2 : IntKind.i64.wrap (5 * (k : Int) + 3) = 5 * (k : Int) + 3 := by rw [IntKind.wrap_i64]; omega
              obtain ⟨j, hj⟩ : ∃ j, (5 * k + 3) % 9 = j := ⟨_, rfl⟩
              have hj9 : j < 9 := by omega
              have gj : (5 * (k : Int) + 3).tmod 9 = (j : Int) := by rw [Int.tmod_eq_emod_of_nonneg (by omega)]; omega
              have wj : IntKind.i64.wrap (j : Int) = j := by rw [IntKind.wrap_i64]; omega
              clear hj
              have HWF := Lib.hid (show ∀ x ∈ ([⟨0, 4, ⟨0, 0⟩, j, ⟨#[]⟩⟩, ⟨0, 6, ⟨0, 0⟩, 50, ⟨#[]⟩⟩] : List CallV), wfI x.n from (List.forall_mem_cons.2 ⟨(wfI_of (by simp only []; omega) (by simp only []; omega)), (List.forall_mem_cons.2 ⟨(wfI_of (by simp only []; omega) (by simp only []; omega)), (fun _ h => by cases h)⟩)⟩))
              go_wp2_with (at_builtin; refine wpList_append_own _ rfl (.tmp 46) (.tmp 53) 22 rfl w0.heap.size 35 iO _ 6 56 Tryz.underlying22 hiO hz0 hz1 hz2 rfl (by decide) _ cs.length (cs.flatMap CallV.cs) rfl (HO.out.row.alloc _) ⟨wr.heap.size, 0, none⟩ 2 2 [.int .i64 0, .int .i64 4, .int .i64 0, .int .i64 0, .int .i64 j, .string ⟨#[]⟩, .int .i64 0, .int .i64 6, .int .i64 0, .int .i64 0, .int .i64 50, .string ⟨#[]⟩] rfl rfl ?_ ?_ ?_ ?_ ?_ ?_; exact new_cells wr 35 [.int .i64 0, .int .i64 4, .int .i64 0, .int .i64 0, .int .i64 j, .string ⟨#[]⟩, .int .i64 0, .int .i64 6, .int .i64 0, .int .i64 0, .int .i64 50, .string ⟨#[]⟩]; (simp [Value.oneCell']); exact HMX.out; exact HMB.out; (have := HO.out.bel.size; simp; omega); intro v2 w2 hown hg _; have hP := HO.out.push [⟨0, 4, ⟨0, 0⟩, j, ⟨#[]⟩⟩, ⟨0, 6, ⟨0, 0⟩, 50, ⟨#[]⟩⟩] HWF.out hown hg; have HP := Lib.hid hP; clear hown hg hP)
              go_roundw
              case rel => exact ⟨k + 1, _, _, by omega, rfl, by go_num, HP.out, by simp; omega⟩
              case measure => simp [intOf]; omega
            · have hkl : ¬ (k : Int) < 9 := by omega
              obtain ⟨wo, rfl⟩ : ∃ wo : World, wo = wr := ⟨_, rfl⟩
              go_wp2_with (fail)
              go_loopw [1, 5] (fun s1 i wr => ∃ (k : Nat) (cs : List CallV) (v : Value), k ≤ 11 ∧ s1 = v ∧ i = .int .i64 k ∧ Cs11 w0 wr v cs ∧ cs.length ≤ 420 + 3 * k) (fun _ i _ => 11 - (intOf i).toNat)
              case atStart => exact ⟨0, _, _, by omega, rfl, rfl, HO.out, by simp <;> omega⟩
              case round =>
                clear HO hol
                obtain ⟨k, cs, v, hk, rfl, rfl, hO, hol⟩ := hrel
                obtain ⟨VA, vc, rfl⟩ := own_slice hO.row
                have HO := Lib.hid hO
                clear hO
                by_cases hlt : k < 11
                · have hkl : (k : Int) < 11 := by omega
                  have HMX := Lib.hid (show cs.length + 3 ≤ maxLen by unfold maxLen; omega)
                  have HMB := Lib.hid (show (cs.length + 3) * 56 ≤ 140737488355328 by omega)
                  have hw : IntKind.i64.wrap (4 * (k : Int)) = 4 * (k : Int) := by rw [IntKind.wrap_i64]; omega
                  obtain ⟨j, hj⟩ : ∃ j, (4 * k) % 10 = j := ⟨_, rfl⟩
                  have hj9 : j < 10 := by omega
                  have gj : (4 * (k : Int)).tmod 10 = (j : Int) := by rw [Int.tmod_eq_emod_of_nonneg (by omega)]; omega
                  have wj : IntKind.i64.wrap (j : Int) = j := by rw [IntKind.wrap_i64]; omega
                  have wk : IntKind.i64.wrap (2 + (j : Int)) = 2 + (j : Int) := by rw [IntKind.wrap_i64]; omega
                  clear hj
                  have HWF := Lib.hid (show ∀ x ∈ ([⟨0, 5, ⟨0, 0⟩, (2 + (j : Int)), ⟨#[]⟩⟩, ⟨0, 6, ⟨0, 0⟩, 50, ⟨#[]⟩⟩, ⟨0, 6, ⟨0, 0⟩, 3, ⟨#[]⟩⟩] : List CallV), wfI x.n from (List.forall_mem_cons.2 ⟨(wfI_of (by simp only []; omega) (by simp only []; omega)), (List.forall_mem_cons.2 ⟨(wfI_of (by simp only []; omega) (by simp only []; omega)), (List.forall_mem_cons.2 ⟨(wfI_of (by simp only []; omega) (by simp only []; omega)), (fun _ h => by cases h)⟩)⟩)⟩))
                  go_wp2_with (at_builtin; refine wpList_append_own _ rfl (.tmp 59) (.tmp 67) 22 rfl w0.heap.size 35 iO _ 6 56 Tryz.underlying22 hiO hz0 hz1 hz2 rfl (by decide) _ cs.length (cs.flatMap CallV.cs) rfl (HO.out.row.alloc _) ⟨wr.heap.size, 0, none⟩ 3 3 [.int .i64 0, .int .i64 5, .int .i64 0, .int .i64 0, .int .i64 (2 + (j : Int)), .string ⟨#[]⟩, .int .i64 0, .int .i64 6, .int .i64 0, .int .i64 0, .int .i64 50, .string ⟨#[]⟩, .int .i64 0, .int .i64 6, .int .i64 0, .int .i64 0, .int .i64 3, .string ⟨#[]⟩] rfl rfl ?_ ?_ ?_ ?_ ?_ ?_; exact new_cells wr 35 [.int .i64 0, .int .i64 5, .int .i64 0, .int .i64 0, .int .i64 (2 + (j : Int)), .string ⟨#[]⟩, .int .i64 0, .int .i64 6, .int .i64 0, .int .i64 0, .int .i64 50, .string ⟨#[]⟩, .int .i64 0, .int .i64 6, .int .i64 0, .int .i64 0, .int .i64 3, .string ⟨#[]⟩]; (simp [Value.oneCell']); exact HMX.out; exact HMB.out; (have := HO.out.bel.size; simp; omega); intro v2 w2 hown hg _; have hP := HO.out.push [⟨0, 5, ⟨0, 0⟩, (2 + (j : Int)), ⟨#[]⟩⟩, ⟨0, 6, ⟨0, 0⟩, 50, ⟨#[]⟩⟩, ⟨0, 6, ⟨0, 0⟩, 3, ⟨#[]⟩⟩] HWF.out hown hg; have HP := Lib.hid hP; clear hown hg hP)
                  go_roundw
                  case rel => exact ⟨k + 1, _, _, by omega, rfl, by go_num, HP.out, by simp; omega⟩
                  case measure => simp [intOf]; omega
                · have hkl : ¬ (k : Int) < 11 := by omega
                  obtain ⟨wo, rfl⟩ : ∃ wo : World, wo = wr := ⟨_, rfl⟩
                  go_wp2_with (fail)
                  refine (storeScript_calls 4 1 cs VA vc wo (Reads.of_own HO.out.row) HO.out.wf (by omega) (HGG.out.below HO.out.bel)).mono ?_
                  rintro e w3 ⟨rfl, hb3⟩
                  go_wp2
                  go_ret
                  exact ⟨rfl, below_after HO.out.bel hb3⟩
end Go.Proofs.YtflkddllofeiaaaGreatDoor
