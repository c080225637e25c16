/- balance.find by a contract: the search for a name, in any list of marks. -/
import Derived.Test.YtcgcgekefhhjhaaDoorPos14
namespace Go.Proofs.YtcgcgekefhhjhaaDoor
set_option linter.unusedSimpArgs false
set_option linter.unusedVariables false
open Go.RowKit

def cmpI (x n : Int) : Int := if x < n then -1 else if n < x then 1 else 0
set_option maxRecDepth 100000 in
theorem compare_calls (x n : Int) (w : World) : Calls Tryd.prog 62 #[.int .i64 x, .int .i64 n] w fun e w' => e = .returned (.int .i64 (cmpI x n)) ∧ w' = w := by
  unfold cmpI
  by_cases h1 : x < n
  · rw [if_pos h1]
    go_enter Tryd.func62, Tryd.ntmps62
    go_wp2
    go_ret
    exact ⟨rfl, rfl⟩
  · rw [if_neg h1]
    by_cases h2 : n < x
    · rw [if_pos h2]
      go_enter Tryd.func62, Tryd.ntmps62
      go_wp2
      go_ret
      exact ⟨rfl, rfl⟩
    · rw [if_neg h2]
      go_enter Tryd.func62, Tryd.ntmps62
      go_wp2
      go_ret
      exact ⟨rfl, rfl⟩
set_option maxRecDepth 100000 in
theorem find1_calls (x : Mk) (n : Int) (w : World) : Calls Tryd.prog 61 #[.agg #[.int .i64 x.m, .int .i64 x.q], .int .i64 n] w fun e w' => e = .returned (.int .i64 (cmpI x.m n)) ∧ Below w.heap.size w w' := by
  go_enter Tryd.func61, Tryd.ntmps61
  go_wp2_with (go_at_call 62; refine (compare_calls x.m n _).mono ?_; rintro e w1 ⟨rfl, rfl⟩)
  go_ret
  exact ⟨rfl, (Below.refl _ _).alloc (Nat.le_refl _) _⟩

/-- A place that a search for n may answer: what lies right ahead of it is below n, what lies there is not. -/
structure PlaceOf (l : List Mk) (n : Int) (i : Nat) : Prop where
  le : i ≤ l.length
  lo : ∀ (h : i - 1 < l.length), 0 < i → l[i - 1].m < n
  hi : ∀ (h : i < l.length), n ≤ l[i].m
def isAt (l : List Mk) (n : Int) (i : Nat) : Bool := decide ((l[i]?).map (·.m) = some n)
def FindTo (w : World) (l : List Mk) (n : Int) (e : Ending) (w' : World) : Prop :=
  Below w.heap.size w w' ∧ ∃ i, PlaceOf l n i ∧ e = .returned (.tuple #[.int .i64 (i : Nat), .bool (isAt l n i)])

set_option maxRecDepth 100000 in
set_option maxHeartbeats 4000000 in
theorem bs_calls (l : List Mk) (A : Option Addr) (c B : Nat) (n : Int) (w : World) (hr : Reads w B 2 A l.length (marksC l)) (hB : B ≤ w.heap.size) (hlen : l.length ≤ 4611686018427387904) :
    Calls Tryd.prog 60 #[.slice A l.length c, .int .i64 n, .func (.func 61) #[] #[]] w (FindTo w l n) := by
  go_enter Tryd.func60, Tryd.ntmps60
  go_wp2_with (fail)
  go_loopw [9, 10] (fun i j wr => ∃ a b : Nat, i = .int .i64 a ∧ j = .int .i64 b ∧ a ≤ b ∧ b ≤ l.length ∧ (∀ (h : a - 1 < l.length), 0 < a → l[a - 1].m < n) ∧ (∀ (h : b < l.length), n ≤ l[b].m) ∧ Below w.heap.size w wr) (fun i j _ => (intOf j).toNat - (intOf i).toNat)
  case atStart => exact ⟨0, l.length, rfl, rfl, by omega, by omega, fun _ h => absurd h (by omega), fun h => absurd h (by omega), Below.refl _ _⟩
  case round =>
    obtain ⟨a, b, rfl, rfl, hab, hbl, h1, h2, hB0⟩ := hrel
    have H1 := Lib.hid h1
    have H2 := Lib.hid h2
    clear h1 h2
    by_cases hlt : a < b
    · have hil : (a : Int) < b := by omega
      have hhl : (a + b) / 2 < l.length := by omega
      obtain ⟨ad, rfl, hadb, e0, e1⟩ := marks_at (hr.below (hB0.mono hB)) hhl
      generalize hx : l[(a + b) / 2] = x at e0 e1
      have HX := Lib.hid hx
      clear hx hr
      have hn0 : (0 : Int) ≤ (a : Int) := by omega
      have hn1 : (0 : Int) ≤ (b : Int) := by omega
      by_cases hc : x.m < n
      · have hc' : cmpI x.m n = -1 := if_pos hc
        go_wp2_with (go_at_call 61; refine (find1_calls x n wr).mono ?_; rintro e w1 ⟨rfl, hb1⟩; rw [hc'])
        refine ⟨⟨(a + b) / 2 + 1, b, by go_num, rfl, by omega, by omega, fun h _ => ?_, H2.out, hB0.trans (hb1.mono hB0.size)⟩, by simp [intOf]; omega⟩
        simp only [Nat.add_sub_cancel]
        rw [HX.out]
        exact hc
      · have hc' : ¬ cmpI x.m n < 0 := by unfold cmpI; rw [if_neg hc]; split <;> omega
        obtain ⟨z, hz⟩ : ∃ z, cmpI x.m n = z := ⟨_, rfl⟩
        rw [hz] at hc'
        go_wp2_with (go_at_call 61; refine (find1_calls x n wr).mono ?_; rintro e w1 ⟨rfl, hb1⟩; rw [hz])
        refine ⟨⟨a, (a + b) / 2, rfl, by go_num, by omega, by omega, H1.out, fun h => ?_, hB0.trans (hb1.mono hB0.size)⟩, by simp [intOf]; omega⟩
        rw [HX.out]
        omega
    · obtain rfl : a = b := by omega
      have HP := Lib.hid (show PlaceOf l n a from ⟨hbl, H1.out, H2.out⟩)
      by_cases hal : a < l.length
      · obtain ⟨ad, rfl, hadb, e0, e1⟩ := marks_at (hr.below (hB0.mono hB)) hal
        have hx2 := H2.out hal
        have hi : isAt l n a = decide (l[a].m = n) := by unfold isAt; rw [List.getElem?_eq_getElem hal]; simp
        have hal' : (a : Int) < l.length := by omega
        generalize l[a] = x at e0 e1 hi hx2
        have HI := Lib.hid hi
        clear hr hi
        by_cases hxn : x.m = n
        · have hc' : cmpI x.m n = 0 := by unfold cmpI; rw [if_neg (by omega), if_neg (by omega)]
          have HXN := Lib.hid hxn
          clear hxn hx2
          go_wp2_with (go_at_call 61; refine (find1_calls x n wr).mono ?_; rintro e w1 ⟨rfl, hb1⟩; rw [hc'])
          go_ret2
          exact ⟨hB0.trans (hb1.mono hB0.size), a, HP.out, by rw [HI.out, decide_eq_true HXN.out]; rfl⟩
        · have hc' : cmpI x.m n = 1 := by unfold cmpI; rw [if_neg (by omega), if_pos (by omega)]
          have HXN := Lib.hid hxn
          clear hxn hx2
          go_wp2_with (go_at_call 61; refine (find1_calls x n wr).mono ?_; rintro e w1 ⟨rfl, hb1⟩; rw [hc'])
          go_ret2
          exact ⟨hB0.trans (hb1.mono hB0.size), a, HP.out, by rw [HI.out, decide_eq_false HXN.out]; rfl⟩
      · obtain rfl : a = l.length := by omega
        have hi : isAt l n l.length = false := by simp [isAt]
        have HI := Lib.hid hi
        clear hi
        go_wp2
        go_ret2
        exact ⟨hB0, _, HP.out, by rw [HI.out]; rfl⟩

set_option maxRecDepth 100000 in
set_option maxHeartbeats 2000000 in
theorem find_calls (a : Int) (l : List Mk) (A : Option Addr) (c B : Nat) (n : Int) (w : World) (hr : Reads w B 2 A l.length (marksC l)) (hB : B ≤ w.heap.size) (hlen : l.length ≤ 4611686018427387904) :
    Calls Tryd.prog 43 #[.agg #[.int .i64 a, .slice A l.length c], .int .i64 n] w (FindTo w l n) := by
  have hb0 : Below w.heap.size w (w.alloc (.cells #[.int .i64 a, .slice A l.length c] 24)) := (Below.refl _ _).alloc (Nat.le_refl _) _
  have hr1 := Lib.hid (hr.below (hb0.mono hB))
  have HB0 := Lib.hid hb0
  clear hr hb0
  go_enter Tryd.func43, Tryd.ntmps43
  go_wp2_with (go_at_call 60; refine (bs_calls l A c B n _ hr1.out (Nat.le_trans hB HB0.out.size) hlen).mono ?_; rintro e w1 ⟨hb1, i, hp, rfl⟩)
  go_ret2
  exact ⟨HB0.out.trans (hb1.mono HB0.out.size), i, hp, rfl⟩
end Go.Proofs.YtcgcgekefhhjhaaDoor
