/- Two chains and their rows, in two arrays (printed by gen_two.py). -/
import Derived.Test.YtmljiegeingpeaaStep
namespace Go.Proofs.Ytmljiegeingpeaa
set_option linter.unusedSimpArgs false
set_option linter.unusedVariables false
open Go.RowKit

section
variable {B k : Nat} {wr w2 : World} {gx gr p0 p1 : Nat} {s0 s1 r0 r1 : Value} {L0 L1 : List VerS}
theorem of_blk_ne {g p : Nat} {sv : Value} {L : List VerS} {t : TypeId} {cs : Array Value} (hb : Blk wr g t cs) (h : Chn wr p sv L) (h1 : 46 ≠ t) (h2 : 48 ≠ t) : ¬ OfC p sv g := by
  rintro (he | he)
  · exact (h.blk.ne_ hb h1) he.symm
  · exact own_blk_ne h.row hb h2 he
theorem row_far {g : Nat} {rv : Value} {l : List VerS} {t : TypeId} {cs : Array Value} {i : Nat} {u : Value} (hb : Blk wr g t cs) (h : RowR wr rv l) (h2 : 36 ≠ t) : RowR (wr.setCell ⟨g, i, none⟩ u) rv l :=
  own_but (S := fun j => j = g) h ((But.refl wr (fun j => j = g)).setCell (fun _ => rfl) u) (fun b hbv he => own_blk_ne h hb h2 (he ▸ hbv))
theorem chn_far {g p i : Nat} {sv u : Value} {L : List VerS} {t : TypeId} {cs : Array Value} (hb : Blk wr g t cs) (h : Chn wr p sv L) (h1 : 46 ≠ t) (h2 : 48 ≠ t) : Chn (wr.setCell ⟨g, i, none⟩ u) p sv L :=
  h.but (S := fun j => j = g) ((But.refl wr (fun j => j = g)).setCell (fun _ => rfl) u) (fun j hj he => of_blk_ne hb h h1 h2 (he ▸ hj))
end

end Go.Proofs.Ytmljiegeingpeaa
