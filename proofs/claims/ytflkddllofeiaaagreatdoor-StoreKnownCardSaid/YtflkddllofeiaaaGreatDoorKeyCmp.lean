/- Comparing numbers and keys: cmp.Compare, cmp.Or at two. -/
import Derived.Test.YtflkddllofeiaaaGreatDoorTail
import Derived.Test.YtflkddllofeiaaaGreatDoorList
import Derived.Test.YtflkddllofeiaaaGreatDoorKit0
namespace Go.Proofs.YtflkddllofeiaaaGreatDoor
set_option linter.unusedSimpArgs false
set_option linter.unusedVariables false
open Go.RowKit

def cmpI (x y : Int) : Int := if x < y then -1 else if y < x then 1 else 0
def cmpK (a b : Key) : Int := if cmpI a.acc b.acc = 0 then cmpI a.ast b.ast else cmpI a.acc b.acc
theorem nan_calls (x : Int) (w : World) : Calls Tryz.prog 80 #[.int .i64 x] w fun e w' => e = .returned (.bool false) ∧ w' = w := by
  go_enter Tryz.func80, Tryz.ntmps80
  go_wp2
  go_ret
  exact ⟨rfl, rfl⟩
theorem compare_calls (x y : Int) (w : World) : Calls Tryz.prog 46 #[.int .i64 x, .int .i64 y] w fun e w' => e = .returned (.int .i64 (cmpI x y)) ∧ w' = w := by
  have hc : (x < y ∧ cmpI x y = -1) ∨ (y < x ∧ cmpI x y = 1) ∨ (x = y ∧ cmpI x y = 0) := by
    unfold cmpI
    by_cases h1 : x < y
    · exact .inl ⟨h1, if_pos h1⟩
    · by_cases h2 : y < x
      · exact .inr (.inl ⟨h2, by rw [if_neg h1, if_pos h2]⟩)
      · exact .inr (.inr ⟨by omega, by rw [if_neg h1, if_neg h2]⟩)
  obtain ⟨c, hcc⟩ : ∃ c, cmpI x y = c := ⟨_, rfl⟩
  rw [hcc] at hc ⊢
  clear hcc
  rcases hc with ⟨h, rfl⟩ | ⟨h, rfl⟩ | ⟨h, rfl⟩
  · go_enter Tryz.func46, Tryz.ntmps46
    go_wp2_with (go_at_call 80; refine (nan_calls _ _).mono ?_; rintro e w' ⟨rfl, rfl⟩)
    go_ret
    exact ⟨rfl, rfl⟩
  · have h' : ¬ x < y := by omega
    go_enter Tryz.func46, Tryz.ntmps46
    go_wp2_with (go_at_call 80; refine (nan_calls _ _).mono ?_; rintro e w' ⟨rfl, rfl⟩)
    go_ret
    exact ⟨rfl, rfl⟩
  · subst h
    go_enter Tryz.func46, Tryz.ntmps46
    go_wp2_with (go_at_call 80; refine (nan_calls _ _).mono ?_; rintro e w' ⟨rfl, rfl⟩)
    go_ret
    exact ⟨rfl, rfl⟩
theorem or2_calls (a b : Int) (g c : Nat) (w : World) (h0 : w.cell? ⟨g, 0, none⟩ = some (.int .i64 a)) (h1 : w.cell? ⟨g, 1, none⟩ = some (.int .i64 b)) :
    Calls Tryz.prog 45 #[.slice (some ⟨g, 0, none⟩) 2 c] w fun e w' => e = .returned (.int .i64 (if a = 0 then b else a)) ∧ w' = w := by
  obtain ⟨r, hr⟩ : ∃ r, (if a = 0 then b else a) = r := ⟨_, rfl⟩
  rw [hr]
  have HR := Lib.hid hr
  clear hr
  go_enter Tryz.func45, Tryz.ntmps45
  go_wp2_with (fail)
  go_loop [8] (fun i => ∃ j : Int, (0 ≤ j ∧ j ≤ 2) ∧ i = .int .i64 j ∧ (1 ≤ j → a = 0) ∧ (2 ≤ j → b = 0)) (fun i => 2 - (intOf i).toNat)
  case atStart => exact ⟨0, by omega, rfl, by omega, by omega⟩
  case round =>
    obtain ⟨j, hj, rfl, hj1, hj2⟩ := hrel
    obtain rfl | rfl | rfl : j = 0 ∨ j = 1 ∨ j = 2 := by omega
    · clear hj1 hj2
      by_cases ha : a = 0
      · have HA := Lib.hid ha
        rw [ha] at h0
        clear ha
        go_wp2_with (fail)
        go_round
        case rel => exact ⟨1, by omega, rfl, fun _ => HA.out, by omega⟩
        case measure => simp [intOf]
      · go_wp2
        go_ret
        exact ⟨ret_int (by rw [← HR.out, if_neg ha]), rfl⟩
    · have ha := hj1 (by omega)
      have HA := Lib.hid ha
      clear hj1 hj2 ha
      by_cases hb : b = 0
      · have HB := Lib.hid hb
        rw [hb] at h1
        clear hb
        go_wp2_with (fail)
        go_round
        case rel => exact ⟨2, by omega, rfl, fun _ => HA.out, fun _ => HB.out⟩
        case measure => simp [intOf]
      · go_wp2
        go_ret
        exact ⟨ret_int (by rw [← HR.out, if_pos HA.out]), rfl⟩
    · have ha := hj1 (by omega)
      have hb := hj2 (by omega)
      have hr : (0 : Int) = r := by rw [← HR.out, if_pos ha, hb]
      have HZ := Lib.hid hr
      clear hj1 hj2 ha hb hr
      go_wp2
      go_ret
      exact ⟨ret_int HZ.out, rfl⟩
/-! ### keys in their order -/
def ltK (a b : Key) : Prop := a.acc < b.acc ∨ (a.acc = b.acc ∧ a.ast < b.ast)
instance (a b : Key) : Decidable (ltK a b) := by unfold ltK; exact inferInstance
theorem cmpK_lt (a b : Key) : cmpK a b < 0 ↔ ltK a b := by
  unfold cmpK cmpI ltK
  by_cases h1 : a.acc < b.acc
  · simp [h1]
  · by_cases h2 : b.acc < a.acc
    · have h3 : a.acc ≠ b.acc := by omega
      simp [h1, h2, h3]
    · have h3 : a.acc = b.acc := by omega
      by_cases h4 : a.ast < b.ast
      · simp [h3, h4]
      · by_cases h5 : b.ast < a.ast <;> simp [h3, h4, h5]
end Go.Proofs.YtflkddllofeiaaaGreatDoor
