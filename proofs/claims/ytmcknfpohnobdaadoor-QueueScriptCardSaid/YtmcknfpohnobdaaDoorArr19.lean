/- An array of two numbers that came in, opened. -/
import Derived.Test.YtmcknfpohnobdaaDoorChecked
import Derived.WideKeyPair
namespace Go.Proofs.YtmcknfpohnobdaaDoor
set_option linter.unusedSimpArgs false
set_option linter.unusedVariables false
open Go.WideMaps
theorem arr_two : ArrKey Tryd.prog 22 3 2 := ⟨Tryd.underlying22, by kernel_rfl, by kernel_rfl, by kernel_rfl⟩
section
variable {H : Type} {enc : TypeId × Value → H} {W : World} {base : Nat} {sp : Nat → Bool} {held : Bool}
set_option maxRecDepth 100000 in
theorem open_two {r : Reach} {b0 : Nat} {v : Value} {d : DataW H} {ps : List MemPlace} (hval : Value.okWide Tryd.prog W r b0 22 v) (hd : DataW.Trod enc Tryd.prog W base sp held 22 v d ps) : ∃ a b : Int, v = .agg #[.int .i64 a, .int .i64 b] := by
  obtain ⟨a, b, h, _⟩ := open_pair (q := .i64) arr_two Tryd.underlying3 hval hd
  exact ⟨a, b, h⟩
end
end Go.Proofs.YtmcknfpohnobdaaDoor
