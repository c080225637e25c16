/- QueueLoses: without. -/
import Derived.Test.YtmcknfpohnobdaaQ15
namespace Go.Proofs.Ytmcknfpohnobdaa
set_option linter.unusedSimpArgs false
set_option linter.unusedVariables false
open Go.RowKit Go.MapKept Go.ChangeMaps Go.Maps

/-- A list without one place, as far as i. -/
def wo (M : List Kn) (r : Int) (i : Nat) : List Kn := if 0 ≤ r ∧ r < i then (M.take i).eraseIdx r.toNat else M.take i
theorem wo_same {M : List Kn} {r : Int} {i : Nat} (hi : i < M.length) (h : (i : Int) = r) : wo M r (i + 1) = wo M r i := by
  unfold wo
  subst h
  rw [if_pos (by omega), if_neg (by omega), Int.toNat_natCast, List.take_succ_eq_append_getElem hi, List.eraseIdx_append_of_length_le (by rw [List.length_take]; omega), List.length_take, Nat.min_eq_left (by omega), Nat.sub_self]
  simp
theorem wo_other {M : List Kn} {r : Int} {i : Nat} (hi : i < M.length) (h : (i : Int) ≠ r) : wo M r (i + 1) = wo M r i ++ [M[i]] := by
  unfold wo
  by_cases hr : 0 ≤ r ∧ r < i
  · rw [if_pos (by omega), if_pos hr, List.take_succ_eq_append_getElem hi, List.eraseIdx_append_of_lt_length (by rw [List.length_take]; omega)]
  · rw [if_neg (by omega), if_neg hr, List.take_succ_eq_append_getElem hi]
theorem wo_len (M : List Kn) (r : Int) (i : Nat) : (wo M r i).length ≤ i := by
  unfold wo
  split
  · exact Nat.le_trans (List.length_eraseIdx_le _ _) (by rw [List.length_take]; omega)
  · rw [List.length_take]; omega
set_option maxRecDepth 100000 in
set_option maxHeartbeats 4000000 in
theorem without_calls (M : List Kn) (A : Option Addr) (c : Nat) (r : Int) (w : World) (hr : Reads w w.heap.size 4 A M.length (M.flatMap Kn.cs)) (hl : M.length ≤ 2932031007400) :
    Calls Try.prog 16 #[.slice A M.length c, .int .i64 r] w
      fun e w' => ∃ v, e = .returned v ∧ w'.ownsRow w.heap.size 37 4 v (wo M r M.length).length ((wo M r M.length).flatMap Kn.cs) ∧ Below w.heap.size w w' := by
  obtain ⟨i0, hi0, hz0, hz1, hz2⟩ := info_parts infoKn
  have HR := Lib.hid hr
  clear hr
  go_enter Try.func16, Try.ntmps16
  go_wp2_with (fail)
  go_loopw [5, 6] (fun ov i wr => ∃ k : Nat, k ≤ M.length ∧ i = .int .i64 k ∧ wr.ownsRow w.heap.size 37 4 ov (wo M r k).length ((wo M r k).flatMap Kn.cs) ∧ Below w.heap.size w wr) (fun _ i _ => M.length - (intOf i).toNat)
  case atStart => exact ⟨0, Nat.zero_le _, rfl, by
    have : wo M r 0 = [] := by unfold wo; split <;> simp
    rw [this]; exact World.ownsRow_nil _ _ _ _, Below.refl _ _⟩
  case round =>
    obtain ⟨k, hk, rfl, hO, hB⟩ := hrel
    have hnl := wo_len M r k
    obtain ⟨P, hP⟩ : ∃ P, wo M r k = P := ⟨_, rfl⟩
    rw [hP] at hO hnl
    obtain ⟨OA, oc, rfl⟩ := own_slice hO
    have HP := Lib.hid hP
    have HO := Lib.hid hO
    have HB := Lib.hid hB
    clear hO hB hP
    by_cases hlt : k < M.length
    · have hkl : (k : Int) < M.length := by omega
      by_cases hkr : (k : Int) = r
      · have HW := Lib.hid ((wo_same hlt hkr).trans HP.out)
        have hkr2 : ((k : Int) == r) = true := by rw [beq_iff_eq]; exact hkr
        have HKR := Lib.hid hkr
        subst hkr
        clear hkr2
        go_wp2
        go_roundw
        case rel => exact ⟨k + 1, by omega, by go_num, by rw [HW.out]; exact HO.out, HB.out⟩
        case measure => simp [intOf]; omega
      · obtain ⟨ad, rfl, _, e0, e1, e2, e3⟩ := kn_at (HR.out.below HB.out) hlt
        have hW := wo_other hlt hkr
        rw [HP.out] at hW
        obtain ⟨x, hx⟩ : ∃ x, M[k] = x := ⟨_, rfl⟩
        rw [hx] at hW e0 e1 e2 e3
        have HW := Lib.hid hW
        clear hW hx
        go_wp2_with (first | (at_builtin; refine wpList_append_wide_at _ rfl (.tmp 16) (.tmp 21) 26 rfl w.heap.size 37 i0 _ 4 40 Try.underlying26 hi0 hz0 hz1 hz2 rfl (by decide) (.slice OA P.length oc) P.length (P.flatMap Kn.cs) rfl (HO.out.alloc _) ⟨wr.heap.size, 0, none⟩ 1 1 x.cs rfl rfl ?_ ?_ ?_ ?_ ?_ ?_; exact new_cells wr 37 x.cs; (simp [Kn.cs, Value.oneCell']); (unfold maxLen; omega); (omega); (have := HB.out.size; simp; omega); intro vq w3 hown3 hg3 _ hat3; obtain ⟨NA, nc, rfl⟩ := own_slice hown3; have HO3 := Lib.hid hown3; have HB3 := Lib.hid ((HB.out.alloc HB.out.size _).grown hg3 (by have := HB.out.size; simp; omega) (fun b hb => own_base HO.out hb)); clear hown3 hg3 hat3) | fail)
        go_roundw
        case rel =>
          refine ⟨k + 1, by omega, by go_num, ?_, HB3.out⟩
          rw [HW.out, List.length_append, List.flatMap_append]
          have := HO3.out
          simpa using this
        case measure => simp [intOf]; omega
    · obtain rfl : k = M.length := by omega
      go_wp2
      go_ret
      exact ⟨_, rfl, by rw [HP.out]; exact HO.out, HB.out⟩
end Go.Proofs.Ytmcknfpohnobdaa
