/- Words for custodykit's lists. -/
import Derived.Test.YtflkddllofeiaaaGreatDoorList
import Derived.Test.YtflkddllofeiaaaGreatDoorClass
namespace Go.Proofs.YtflkddllofeiaaaGreatDoor
set_option linter.unusedSimpArgs false
set_option linter.unusedVariables false
open Go.RowKit

def Int.cs (x : Int) : List Value := [.int .i64 x]
theorem Int.len (x : Int) : (Int.cs x).length = 1 := rfl
def intsC (l : List Int) : List Value := l.flatMap Int.cs
theorem ints_at {w : World} {B : Nat} {A : Option Addr} {xs : List Int} (h : Reads w B 1 A xs.length (intsC xs)) {k : Nat} (hk : k < xs.length) :
    ∃ ad, A = some ad ∧ ad.block < B ∧ w.cell? (ad.add k) = some (.int .i64 xs[k]) := by
  obtain ⟨ad, e, hb, h0, _⟩ := Reads.elem Int.len h hk
  exact ⟨ad, e, hb, by have := h0 _ rfl; rwa [Nat.mul_one] at this⟩
def mk0 (k : Int) : Int := -10 - k
def mkI (k i : Int) : Int := 1000003 * (k + 1) + i
theorem new_cells (w : World) (t : TypeId) (cs : List Value) : ∀ j u, cs[j]? = some u → (w.alloc (.cells cs.toArray t)).cell? ((⟨w.heap.size, 0, none⟩ : Addr).add j) = some u := by
  intro j u hu
  have ea : ((⟨w.heap.size, 0, none⟩ : Addr).add j) = ⟨w.heap.size, j, none⟩ := by unfold Addr.add; split <;> simp_all
  rw [ea, (Blk.new w t cs.toArray).cell j]
  simpa using hu
theorem own_base {w : World} {base : Nat} {e : TypeId} {size n : Nat} {v : Value} {xs : List Value} (h : w.ownsRow base e size v n xs) {k : Nat} (hk : v.ownBlock = some k) : base ≤ k := by
  rcases h.2 with ⟨rfl, _⟩ | ⟨g, cap, cur, rfl, hg, _⟩
  · simp [Value.ownBlock] at hk
  · have : g = k := by simpa [Value.ownBlock] using hk
    omega
theorem own_below {w w1 : World} {base : Nat} {e : TypeId} {size n : Nat} {v : Value} {xs : List Value} (h : w.ownsRow base e size v n xs) (hb : Below w.heap.size w w1) : w1.ownsRow base e size v n xs := by
  obtain ⟨h1, h2⟩ := h
  refine ⟨h1, ?_⟩
  rcases h2 with h2 | ⟨g, cap, cur, hv, hg, hh, r⟩
  · exact .inl h2
  · refine .inr ⟨g, cap, cur, hv, hg, ?_, r⟩
    have hlt : g < w.heap.size := (Array.getElem?_eq_some_iff.1 hh).1
    rw [hb.block g hlt]
    exact hh
theorem own_cap {W : World} {base n c : Nat} {e : TypeId} {size g : Nat} {xs : List Value} (h : W.ownsRow base e size (.slice (some ⟨g, 0, none⟩) n c) n xs) : n ≤ c := by
  rcases h.2 with ⟨h0, _⟩ | ⟨g', cap, cur, hv, _, _, hnc, _⟩
  · cases h0
  · injection hv with _ _ hc
    omega
theorem cell_below {w W : World} (h : Below w.heap.size w W) {p : Addr} {v : Value} (hc : w.cell? p = some v) : W.cell? p = some v := (h.cell (World.block_lt_of_cell? w p hc)).trans hc
theorem cell_alloc {w : World} {p : Addr} {v : Value} (hc : w.cell? p = some v) (o : Obj) : (w.alloc o).cell? p = some v := cell_below ((Below.refl _ _).alloc (Nat.le_refl _) o) hc
/-- A new row: a slice of n elements in memory of the call's own. -/
def NewRow (w : World) (E s n : Nat) (cs : List Value) (e : Ending) (w' : World) : Prop :=
  ∃ g c, e = .returned (.slice (some ⟨g, 0, none⟩) n c) ∧ n ≤ c ∧ w'.ownsRow w.heap.size E s (.slice (some ⟨g, 0, none⟩) n c) n cs ∧ Below w.heap.size w w'
end Go.Proofs.YtflkddllofeiaaaGreatDoor
