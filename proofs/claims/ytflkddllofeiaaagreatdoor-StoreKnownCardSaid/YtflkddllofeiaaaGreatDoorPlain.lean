/- custodykit.Num and custodykit.Plain at nil and at a number. -/
import Derived.Test.YtflkddllofeiaaaGreatDoorAs
namespace Go.Proofs.YtflkddllofeiaaaGreatDoor
set_option linter.unusedSimpArgs false
set_option linter.unusedVariables false
open Go.RowKit

/-- The number that Num answers at an error that is the number m. -/
def numOf (m : Int) : Int := if 1 ≤ m ∧ m ≤ 24 then m else -1
theorem numOf_in {m : Int} (h1 : 1 ≤ m) (h2 : m ≤ 24) : numOf m = m := if_pos ⟨h1, h2⟩
def numAt (m : Int) (k : Nat) : Int := if 1 ≤ m ∧ m < k then m else 0

theorem num_nil (w : World) : Calls Tryz.prog 30 #[.nilIface] w fun e w' => e = .returned (.int .i64 0) ∧ w = w' := by
  go_enter Tryz.func30, Tryz.ntmps30
  go_wp2
  go_ret
  exact ⟨rfl, rfl⟩

set_option maxRecDepth 100000 in
set_option maxHeartbeats 2000000 in
theorem num_errno (m : Int) (w : World) (hm1 : 1 ≤ m) (hm2 : m ≤ 24) : Calls Tryz.prog 30 #[.iface 100 (.int .i64 m)] w fun e w' => e = .returned (.int .i64 m) ∧ w = w' := by
  have hm0 : ((m : Int) == 0) = false := by simp; omega
  go_enter Tryz.func30, Tryz.ntmps30
  go_wp2_with fail
  go_loop [3, 4] (fun f n => ∃ k : Nat, 1 ≤ k ∧ k ≤ 25 ∧ n = .int .i64 k ∧ f = .int .i64 (numAt m k)) (fun _ n => 25 - (intOf n).toNat)
  case atStart => exact ⟨1, by omega, by omega, rfl, by simp [numAt]; omega⟩
  case round =>
    obtain ⟨k, hk1, hk2, rfl, rfl⟩ := hrel
    by_cases hlt : k < 25
    · have hle : decide ((k : Int) ≤ 24) = true := by simp; omega
      rcases Int.lt_trichotomy m k with h | h | h
      · have e1 : numAt m k = m := if_pos ⟨hm1, h⟩
        have e2 : numAt m (k + 1) = m := if_pos ⟨hm1, by omega⟩
        have hne : (m == (k : Int)) = false := by simp; omega
        rw [e1]
        have E2 := Lib.hid e2
        clear e1 e2
        go_wp2_with (go_at_call 69; refine (is_errno _ _ _).mono ?_; rintro e w' ⟨rfl, rfl⟩)
        go_round
        case rel => exact ⟨k + 1, by omega, by omega, by go_num, by rw [E2.out]⟩
        case measure => simp [intOf]; omega
      · have e1 : numAt m k = 0 := if_neg (by omega)
        have e2 : numAt m (k + 1) = m := if_pos ⟨hm1, by omega⟩
        have hne : (m == (k : Int)) = true := by simp; omega
        rw [e1]
        have E2 := Lib.hid e2
        have Hmk := Lib.hid h
        clear e1 e2 h
        go_wp2_with (go_at_call 69; refine (is_errno _ _ _).mono ?_; rintro e w' ⟨rfl, rfl⟩)
        go_round
        case rel => exact ⟨k + 1, by omega, by omega, by go_num, by rw [E2.out, Hmk.out]⟩
        case measure => simp [intOf]; omega
      · have e1 : numAt m k = 0 := if_neg (by omega)
        have e2 : numAt m (k + 1) = 0 := if_neg (by omega)
        have hne : (m == (k : Int)) = false := by simp; omega
        rw [e1]
        have E2 := Lib.hid e2
        clear e1 e2
        go_wp2_with (go_at_call 69; refine (is_errno _ _ _).mono ?_; rintro e w' ⟨rfl, rfl⟩)
        go_round
        case rel => exact ⟨k + 1, by omega, by omega, by go_num, by rw [E2.out]⟩
        case measure => simp [intOf]; omega
    · obtain rfl : k = 25 := by omega
      have e1 : numAt m 25 = m := if_pos ⟨hm1, by omega⟩
      rw [e1]
      clear e1
      go_wp2_with (go_at_call 69; refine (is_errno _ _ _).mono ?_; rintro e w' ⟨rfl, rfl⟩)
      go_ret
      exact ⟨rfl, rfl⟩

/-- An error of package api's numbers, 0 for none. -/
def errV (n : Int) : Value := if n = 0 then .nilIface else .iface 100 (.int .i64 n)
theorem errV_zero : errV 0 = .nilIface := rfl
theorem errV_pos {n : Int} (h : 1 ≤ n) : errV n = .iface 100 (.int .i64 n) := if_neg (by omega)

set_option maxRecDepth 100000 in
set_option maxHeartbeats 2000000 in
theorem plain_nil (n : Int) (w : World) : Calls Tryz.prog 29 #[.nilIface, .int .i64 n] w fun e w' => e = .returned (.bool (n == 0)) ∧ Below w.heap.size w w' := by
  rcases (by cases (n == 0) <;> simp : (n == 0) = true ∨ (n == 0) = false) with h | h
  all_goals
    have h' : ((0 : Int) == n) = (n == 0) := by rw [Bool.eq_iff_iff]; simp; omega
    rw [h] at h' ⊢
    go_enter Tryz.func29, Tryz.ntmps29
    go_wp2_with (go_at_call 30; refine (num_nil _).mono ?_; rintro e w' ⟨rfl, rfl⟩)
    go_ret
    exact ⟨rfl, (Below.refl _ _).alloc (Nat.le_refl _) _⟩

set_option maxRecDepth 100000 in
set_option maxHeartbeats 2000000 in
theorem plain_errno (m n : Int) (w : World) (hm1 : 1 ≤ m) (hm2 : m ≤ 24) (hG : HG w) : Calls Tryz.prog 29 #[.iface 100 (.int .i64 m), .int .i64 n] w fun e w' => e = .returned (.bool (m == n)) ∧ Below w.heap.size w w' := by
  have HGH := Lib.hid hG
  clear hG
  rcases (by cases (m == n) <;> simp : (m == n) = true ∨ (m == n) = false) with h | h
  all_goals
    rw [h]
    go_enter Tryz.func29, Tryz.ntmps29
    go_wp2_with (first | (go_at_call 30; refine (num_errno m _ hm1 hm2).mono ?_; rintro e w' ⟨rfl, rfl⟩) | (go_at_call 68; refine (as_errno m _ _ (HGH.out.alloc _)).mono ?_; rintro e w1 ⟨rfl, hb⟩))
    go_ret
    first
    | exact ⟨rfl, (Below.refl _ _).alloc (Nat.le_refl _) _⟩
    | exact ⟨rfl, ((Below.refl _ _).alloc (Nat.le_refl _) _).trans (hb.mono (by simp))⟩

theorem plain_errV (m n : Int) (w : World) (hm1 : 0 ≤ m) (hm2 : m ≤ 24) (hG : HG w) : Calls Tryz.prog 29 #[errV m, .int .i64 n] w fun e w' => e = .returned (.bool (m == n)) ∧ Below w.heap.size w w' := by
  by_cases h : m = 0
  · subst h
    rw [errV_zero]
    have h' : ((0 : Int) == n) = (n == 0) := by rw [Bool.eq_iff_iff]; simp; omega
    rw [h']
    exact plain_nil n w
  · rw [errV_pos (by omega)]
    exact plain_errno m n w (by omega) hm2 hG
theorem num_errV (m : Int) (w : World) (hm1 : 0 ≤ m) (hm2 : m ≤ 24) : Calls Tryz.prog 30 #[errV m] w fun e w' => e = .returned (.int .i64 m) ∧ w = w' := by
  by_cases h : m = 0
  · subst h
    rw [errV_zero]
    exact num_nil w
  · rw [errV_pos (by omega)]
    exact num_errno m w (by omega) hm2
end Go.Proofs.YtflkddllofeiaaaGreatDoor
