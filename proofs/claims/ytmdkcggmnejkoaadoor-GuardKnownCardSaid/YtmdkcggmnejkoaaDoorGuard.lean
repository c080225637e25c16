/- Package guard: within, below, unless, fault, leg, Fits, by contracts. -/
import Derived.Test.YtmdkcggmnejkoaaDoorPlain
import Derived.StillTailTactics
import Derived.BigQuiet
namespace Go.Proofs.YtmdkcggmnejkoaaDoor
set_option linter.unusedSimpArgs false
set_option linter.unusedVariables false
open Go.RowKit

def withinB (n lo hi : Int) : Bool := decide (lo ≤ n) && decide (n ≤ hi)
def belowB (n hi : Int) : Bool := decide (0 ≤ n) && decide (n < hi)
def unlessN (b : Bool) (e : Int) : Int := if b then 0 else e
def firstNZ : List Int → Int
  | [] => 0
  | x :: l => if x = 0 then firstNZ l else x
theorem firstNZ_zero (l : List Int) : firstNZ (0 :: l) = firstNZ l := by simp [firstNZ]
theorem firstNZ_pos {x : Int} (h : x ≠ 0) (l : List Int) : firstNZ (x :: l) = x := by simp [firstNZ, h]
def ints (l : List Int) : List Value := l.map fun x => .int .i64 x

theorem within_calls (n lo hi : Int) (w : World) : Calls Tryd.prog 40 #[.int .i64 n, .int .i64 lo, .int .i64 hi] w fun e w' => e = .returned (.bool (withinB n lo hi)) ∧ w = w' := by
  by_cases h : lo ≤ n
  · have e : withinB n lo hi = decide (n ≤ hi) := by simp [withinB, h]
    rw [e]
    clear e
    go_enter Tryd.func40, Tryd.ntmps40
    go_wp2
    go_ret
    exact ⟨rfl, rfl⟩
  · have e : withinB n lo hi = false := by simp [withinB, h]
    rw [e]
    clear e
    go_enter Tryd.func40, Tryd.ntmps40
    go_wp2
    go_ret
    exact ⟨rfl, rfl⟩

theorem below_calls (n hi : Int) (w : World) : Calls Tryd.prog 53 #[.int .i64 n, .int .i64 hi] w fun e w' => e = .returned (.bool (belowB n hi)) ∧ w = w' := by
  by_cases h : 0 ≤ n
  · have e : belowB n hi = decide (n < hi) := by simp [belowB, h]
    rw [e]
    clear e
    go_enter Tryd.func53, Tryd.ntmps53
    go_wp2
    go_ret
    exact ⟨rfl, rfl⟩
  · have e : belowB n hi = false := by simp [belowB, h]
    rw [e]
    clear e
    go_enter Tryd.func53, Tryd.ntmps53
    go_wp2
    go_ret
    exact ⟨rfl, rfl⟩

theorem unless_calls (b : Bool) (x : Int) (w : World) : Calls Tryd.prog 42 #[.bool b, .int .i64 x] w fun e w' => e = .returned (.int .i64 (unlessN b x)) ∧ w = w' := by
  cases b
  · show Calls _ _ _ _ fun e w' => e = .returned (.int .i64 x) ∧ w = w'
    go_enter Tryd.func42, Tryd.ntmps42
    go_wp2
    go_ret
    exact ⟨rfl, rfl⟩
  · show Calls _ _ _ _ fun e w' => e = .returned (.int .i64 0) ∧ w = w'
    go_enter Tryd.func42, Tryd.ntmps42
    go_wp2
    go_ret
    exact ⟨rfl, rfl⟩

theorem Reads.new (w : World) (t : TypeId) (cs : List Value) : Reads (w.alloc (.cells cs.toArray t)) (w.heap.size + 1) 1 (some ⟨w.heap.size, 0, none⟩) cs.length cs := by
  refine ⟨by simp, fun _ => ⟨_, rfl, by simp, fun j u hu => ?_⟩⟩
  have h := (Blk.new w t cs.toArray).cell j
  have ea : ((⟨w.heap.size, 0, none⟩ : Addr).add j) = ⟨w.heap.size, j, none⟩ := by unfold Addr.add; split <;> simp_all
  rw [ea, h]
  simpa using hu

set_option maxRecDepth 100000 in
set_option maxHeartbeats 1000000 in
theorem fault_calls (l : List Int) (A : Option Addr) (c B : Nat) (w : World) (hr : Reads w B 1 A l.length (ints l)) (hl : l.length ≤ 1000) :
    Calls Tryd.prog 41 #[.slice A l.length c] w fun e w' => e = .returned (errV (firstNZ l)) ∧ w = w' := by
  go_enter Tryd.func41, Tryd.ntmps41
  go_wp2_with fail
  go_loop [7] (fun i => ∃ k : Nat, k ≤ l.length ∧ i = .int .i64 k ∧ firstNZ (l.drop k) = firstNZ l) (fun i => l.length - (intOf i).toNat)
  case atStart => exact ⟨0, Nat.zero_le _, rfl, rfl⟩
  case round =>
    obtain ⟨k, hk, rfl, hf⟩ := hrel
    have HF := Lib.hid hf
    clear hf
    by_cases hlt : k < l.length
    · obtain ⟨ad, u, rfl, _, hx, hc⟩ := hr.at_ hlt
      have hu : u = .int .i64 l[k] := by
        simp [ints, List.getElem?_map, List.getElem?_eq_getElem hlt] at hx
        exact hx.symm
      subst hu
      have hd : l.drop k = l[k] :: l.drop (k + 1) := List.drop_eq_getElem_cons hlt
      have HD := Lib.hid hd
      clear hd hx hr
      generalize hz : l[k] = z at *
      have HZ := Lib.hid hz
      clear hz
      by_cases hz0 : z = 0
      · subst hz0
        go_wp2
        go_round
        case rel => exact ⟨k + 1, by omega, by go_num, by rw [← HF.out, HD.out, firstNZ_zero]⟩
        case measure => simp [intOf]; omega
      · have hb : ((z : Int) != 0) = true := by simpa using hz0
        go_wp2
        go_ret
        exact ⟨by rw [← HF.out, HD.out, firstNZ_pos hz0, errV, if_neg hz0]; rfl, rfl⟩
    · obtain rfl : k = l.length := by omega
      go_wp2
      go_ret
      exact ⟨by rw [← HF.out, List.drop_length]; rfl, rfl⟩

theorem fault_new1 (x0 : Int) (W : World) (g : Nat) (hg : g = W.heap.size) : Calls Tryd.prog 41 #[.slice (some ⟨g, 0, none⟩) 1 1] (W.alloc (.cells #[.int .i64 x0] 71))
    fun e w' => e = .returned (errV (firstNZ [x0])) ∧ Below W.heap.size W w' := by
  subst hg
  refine (fault_calls [x0] _ 1 _ _ (Reads.new W _ (ints [x0])) (by simp)).mono ?_
  rintro e w' ⟨rfl, rfl⟩
  exact ⟨rfl, (Below.refl _ _).alloc (Nat.le_refl _) _⟩
theorem fault_new2 (x0 x1 : Int) (W : World) (g : Nat) (hg : g = W.heap.size) : Calls Tryd.prog 41 #[.slice (some ⟨g, 0, none⟩) 2 2] (W.alloc (.cells #[.int .i64 x0, .int .i64 x1] 71))
    fun e w' => e = .returned (errV (firstNZ [x0, x1])) ∧ Below W.heap.size W w' := by
  subst hg
  refine (fault_calls [x0, x1] _ 2 _ _ (Reads.new W _ (ints [x0, x1])) (by simp)).mono ?_
  rintro e w' ⟨rfl, rfl⟩
  exact ⟨rfl, (Below.refl _ _).alloc (Nat.le_refl _) _⟩
theorem fault_new3 (x0 x1 x2 : Int) (W : World) (g : Nat) (hg : g = W.heap.size) : Calls Tryd.prog 41 #[.slice (some ⟨g, 0, none⟩) 3 3] (W.alloc (.cells #[.int .i64 x0, .int .i64 x1, .int .i64 x2] 71))
    fun e w' => e = .returned (errV (firstNZ [x0, x1, x2])) ∧ Below W.heap.size W w' := by
  subst hg
  refine (fault_calls [x0, x1, x2] _ 3 _ _ (Reads.new W _ (ints [x0, x1, x2])) (by simp)).mono ?_
  rintro e w' ⟨rfl, rfl⟩
  exact ⟨rfl, (Below.refl _ _).alloc (Nat.le_refl _) _⟩
theorem fault_new4 (x0 x1 x2 x3 : Int) (W : World) (g : Nat) (hg : g = W.heap.size) : Calls Tryd.prog 41 #[.slice (some ⟨g, 0, none⟩) 4 4] (W.alloc (.cells #[.int .i64 x0, .int .i64 x1, .int .i64 x2, .int .i64 x3] 71))
    fun e w' => e = .returned (errV (firstNZ [x0, x1, x2, x3])) ∧ Below W.heap.size W w' := by
  subst hg
  refine (fault_calls [x0, x1, x2, x3] _ 4 _ _ (Reads.new W _ (ints [x0, x1, x2, x3])) (by simp)).mono ?_
  rintro e w' ⟨rfl, rfl⟩
  exact ⟨rfl, (Below.refl _ _).alloc (Nat.le_refl _) _⟩
theorem fault_new6 (x0 x1 x2 x3 x4 x5 : Int) (W : World) (g : Nat) (hg : g = W.heap.size) : Calls Tryd.prog 41 #[.slice (some ⟨g, 0, none⟩) 6 6] (W.alloc (.cells #[.int .i64 x0, .int .i64 x1, .int .i64 x2, .int .i64 x3, .int .i64 x4, .int .i64 x5] 71))
    fun e w' => e = .returned (errV (firstNZ [x0, x1, x2, x3, x4, x5])) ∧ Below W.heap.size W w' := by
  subst hg
  refine (fault_calls [x0, x1, x2, x3, x4, x5] _ 6 _ _ (Reads.new W _ (ints [x0, x1, x2, x3, x4, x5])) (by simp)).mono ?_
  rintro e w' ⟨rfl, rfl⟩
  exact ⟨rfl, (Below.refl _ _).alloc (Nat.le_refl _) _⟩

/-- What Fits answers: 0 for nothing. -/
def fitsB (c0 c1 c2 c3 c4 : Int) : Bool := withinB c0 1 65536 && (withinB c1 1 65536 && (withinB c2 0 256 && (withinB c3 1 64 && withinB c4 0 8)))
def fitsN (c0 c1 c2 c3 c4 : Int) : Int := unlessN (fitsB c0 c1 c2 c3 c4) 1
theorem firstNZ_one (x : Int) : firstNZ [x] = x := by
  by_cases h : x = 0
  · subst h; rfl
  · exact firstNZ_pos h _
theorem bool2 (b : Bool) : b = true ∨ b = false := by cases b <;> simp

set_option maxRecDepth 100000 in
set_option maxHeartbeats 2000000 in
theorem fits_calls (c0 c1 c2 c3 c4 : Int) (w : World) : Calls Tryd.prog 12 #[.agg #[.int .i64 c0, .int .i64 c1, .int .i64 c2, .int .i64 c3, .int .i64 c4]] w
    fun e w' => e = .returned (errV (fitsN c0 c1 c2 c3 c4)) ∧ Below w.heap.size w w' := by
  have fin : ∀ b : Bool, b = fitsB c0 c1 c2 c3 c4 → Ending.returned (errV (firstNZ [unlessN b 1])) = Ending.returned (errV (fitsN c0 c1 c2 c3 c4)) := by
    intro b hb; subst hb; rw [firstNZ_one]; rfl
  have FIN := Lib.hid fin
  clear fin
  have cases5 : (withinB c0 1 65536 = false) ∨ (withinB c0 1 65536 = true ∧ withinB c1 1 65536 = false) ∨ (withinB c0 1 65536 = true ∧ withinB c1 1 65536 = true ∧ withinB c2 0 256 = false) ∨
      (withinB c0 1 65536 = true ∧ withinB c1 1 65536 = true ∧ withinB c2 0 256 = true ∧ withinB c3 1 64 = false) ∨ (withinB c0 1 65536 = true ∧ withinB c1 1 65536 = true ∧ withinB c2 0 256 = true ∧ withinB c3 1 64 = true) := by
    cases withinB c0 1 65536 <;> cases withinB c1 1 65536 <;> cases withinB c2 0 256 <;> cases withinB c3 1 64 <;> simp
  rcases cases5 with h0 | ⟨h0, h1⟩ | ⟨h0, h1, h2⟩ | ⟨h0, h1, h2, h3⟩ | ⟨h0, h1, h2, h3⟩
  all_goals
    go_enter Tryd.func12, Tryd.ntmps12
    go_wp2_with (first | (go_at_call 40; refine (within_calls _ _ _ _).mono ?_; rintro e w' ⟨rfl, rfl⟩) | (go_at_call 42; refine (unless_calls _ _ _).mono ?_; rintro e w' ⟨rfl, rfl⟩) | (go_at_call 41; refine (fault_new1 _ _ _ ?_).mono ?_; (simp); rintro e w1 ⟨rfl, hb⟩))
    go_ret
    have HB := ((Below.refl w.heap.size w).alloc (Nat.le_refl _) _).trans (hb.mono (by simp))
    first
    | exact ⟨FIN.out false (by simp [fitsB, *]), HB⟩
    | exact ⟨FIN.out (withinB c4 0 8) (by simp [fitsB, *]), HB⟩
end Go.Proofs.YtmdkcggmnejkoaaDoor
