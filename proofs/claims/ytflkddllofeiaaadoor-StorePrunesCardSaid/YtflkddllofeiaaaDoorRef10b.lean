/- The document's versions (custodyref10): At, Last, Prune. -/
import Derived.Test.YtflkddllofeiaaaDoorWide
import Derived.Test.YtflkddllofeiaaaDoorRef10
namespace Go.Proofs.YtflkddllofeiaaaDoor
set_option linter.unusedSimpArgs false
set_option linter.unusedVariables false
open Go.RowKit

def MaxV (l : List VerS) : Prop := ∀ x ∈ l, x.n ≤ 9223372036854775807
theorem leN_max {l : List VerS} (h : MaxV l) : leN l 9223372036854775807 = l.length := by
  unfold leN
  rw [List.filter_eq_self.2 (fun x hx => by simpa using h x hx)]

/-- The newest version's text. -/
def lastV (l : List VerS) : ByteArray := (l.getLast?.map (·.v)).getD ByteArray.empty
theorem lastV_pos {l : List VerS} (h : 0 < l.length) : lastV l = l[l.length - 1].v := by
  unfold lastV
  rw [List.getLast?_eq_getElem?, List.getElem?_eq_getElem (by omega)]
  rfl
def lastM (l : List VerS) : Int := if l.length = 0 then 0 else lastNo l

end Go.Proofs.YtflkddllofeiaaaDoor
