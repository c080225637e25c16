/- Chains of texts: Last. -/
import Derived.Test.YtmljiegeingpeaaAll
import Derived.Deep.RegionHeld3
namespace Go.Proofs.Ytmljiegeingpeaa
set_option linter.unusedSimpArgs false
set_option linter.unusedVariables false
open Go.RowKit Go.Shelf
attribute [local go_sem] Oper.semAt_some

theorem blk_kept {W W' : World} {g : Nat} {t : TypeId} {cs : Array Value} {row : Option Nat} (h : Blk W g t cs) (hg : W.grownBy W' row) (hr : ∀ r, row = some r → ∃ o : Obj, W.heap[r]? = some o ∧ o.isCells = false) : Blk W' g t cs := by
  refine h.grown hg fun he => ?_
  obtain ⟨o, ho, hn⟩ := hr g he.symm
  have h' : W.heap[g]? = some (.cells cs t (0, 0)) := h
  rw [h'] at ho
  cases ho
  cases hn
theorem blk_put {W : World} {g D : Nat} {t : TypeId} {cs : Array Value} {o : Obj} (h : Blk W g t cs) (hk : W.heap[D]? = some o) (hn : o.isCells = false) (o' : Obj) : Blk (W.putObj D o') g t cs :=
  blk_kept h (grownBy_putObj' W D o') (fun r e => by cases e; exact ⟨_, hk, hn⟩)

/-- A store of what the cell holds. -/
theorem setCell_self {w : World} {g : Nat} {t : TypeId} {v : Value} (h : Blk w g t #[v]) : w.setCell ⟨g, 0, none⟩ v = w := by
  have h' : w.heap[g]? = some (.cells #[v] t (0, 0)) := h
  have hm : (w.setCell ⟨g, 0, none⟩ v).heap = w.heap := by
    unfold World.setCell
    apply Array.ext_getElem?
    intro i
    rw [Array.getElem?_modify]
    split
    · rename_i he
      have he' : i = g := he.symm
      subst he'
      rw [h']
      rfl
    · rfl
  cases w
  unfold World.setCell at hm ⊢
  simp only at hm ⊢
  rw [hm]
theorem lastV_snoc (l : List VerS) (x : VerS) : lastV (l ++ [x]) = x.v := by simp [lastV]
theorem lastM_snoc (l : List VerS) (x : VerS) : lastM (l ++ [x]) = x.n := by unfold lastM; rw [if_neg (by simp), lastNo_snoc]

end Go.Proofs.Ytmljiegeingpeaa
