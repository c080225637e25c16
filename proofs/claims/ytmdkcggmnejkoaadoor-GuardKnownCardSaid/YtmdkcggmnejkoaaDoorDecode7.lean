/- guard.Decode: one contract. -/
import Derived.Test.YtmdkcggmnejkoaaDoorDecode6
namespace Go.Proofs.YtmdkcggmnejkoaaDoor
set_option linter.unusedSimpArgs false
set_option linter.unusedVariables false
open Go.RowKit

def rdOf (c : Int) (r : List Int) : Option (Option (OpM × List Int)) :=
  if c = 1 ∨ c = 2 then some (rdHeld c r) else if c = 3 ∨ c = 4 then some (rdMarked c r) else if c = 5 then some (rdLegs c r) else if c = 6 ∨ c = 7 then some (rdId c r) else if c = 8 then some (rdPairs c r) else none
def decodeG : List Int → OpM × Int
  | [] => (OpM.zero, 2)
  | c :: r => match rdOf c r with
    | some res => fin res
    | none => (OpM.zero, 13)

theorem look_none {c : Int} (h : ∀ k : Int, (k = 1 ∨ k = 2 ∨ k = 3 ∨ k = 4 ∨ k = 5 ∨ k = 6 ∨ k = 7 ∨ k = 8) → c ≠ k) : Instr.findNow (.int .i64) (.int .i64 c) readersL 0 = some none := by
  have e : ∀ k : Int, (k = 1 ∨ k = 2 ∨ k = 3 ∨ k = 4 ∨ k = 5 ∨ k = 6 ∨ k = 7 ∨ k = 8) → (c == k) = false := fun k hk => beq_eq_false_iff_ne.2 (h k hk)
  simp only [readersL, ent, Instr.findNow, Instr.sameNow, if_true, e 1 (by simp), e 2 (by simp), e 3 (by simp), e 4 (by simp), e 5 (by simp), e 6 (by simp), e 7 (by simp), e 8 (by simp)]

theorem decode_calls (A : Option Addr) (cap : Nat) (raw : List Int) (w : World) (hr : Reads w w.heap.size 1 A raw.length (intsC raw)) (hcap : raw.length ≤ cap) (hlen : raw.length ≤ 17592186044416) :
    Calls Tryd.prog 26 #[.slice A raw.length cap] w (DecodeTo w (decodeG raw)) := by
  match raw, hr, hcap, hlen with
  | [], _, _, _ => exact decode_nil A cap w
  | c :: r, hr, hcap, hlen =>
    have hl : r.length ≤ 17592186044416 := by simp only [List.length_cons] at hlen; omega
    have hc : r.length + 1 ≤ cap := hcap
    show Calls _ _ #[.slice A (r.length + 1) cap] w (DecodeTo w (match rdOf c r with | some res => fin res | none => (OpM.zero, 13)))
    unfold rdOf
    by_cases h1 : c = 1 ∨ c = 2
    · rw [if_pos h1]
      rcases h1 with rfl | rfl
      · exact decode_held A cap _ r w hr hc hl (i := 0) rfl
      · exact decode_held A cap _ r w hr hc hl (i := 1) rfl
    rw [if_neg h1]
    by_cases h3 : c = 3 ∨ c = 4
    · rw [if_pos h3]
      rcases h3 with rfl | rfl
      · exact decode_marked A cap _ r w hr hc hl (i := 2) rfl
      · exact decode_marked A cap _ r w hr hc hl (i := 3) rfl
    rw [if_neg h3]
    by_cases h5 : c = 5
    · rw [if_pos h5]
      subst h5
      exact decode_legs A cap _ r w hr hc hl (i := 4) rfl
    rw [if_neg h5]
    by_cases h6 : c = 6 ∨ c = 7
    · rw [if_pos h6]
      rcases h6 with rfl | rfl
      · exact decode_id A cap _ r w hr hc hl (i := 5) rfl
      · exact decode_id A cap _ r w hr hc hl (i := 6) rfl
    rw [if_neg h6]
    by_cases h8 : c = 8
    · rw [if_pos h8]
      subst h8
      exact decode_pairs A cap _ r w hr hc hl (i := 7) rfl
    rw [if_neg h8]
    exact decode_other A cap c r w hr hc hl (look_none (by rintro k (rfl | rfl | rfl | rfl | rfl | rfl | rfl | rfl) e <;> subst e <;> simp at h1 h3 h5 h6 h8))
end Go.Proofs.YtmdkcggmnejkoaaDoor
