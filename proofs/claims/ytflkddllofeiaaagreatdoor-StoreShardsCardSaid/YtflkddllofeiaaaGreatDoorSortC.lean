/- Store: slices.SortFunc at keys, by the library's contract. -/
import Derived.Test.YtflkddllofeiaaaGreatDoorS9
import Derived.Test.YtflkddllofeiaaaGreatDoorSort
import Derived.Test.YtflkddllofeiaaaGreatDoorSortKeys
import Derived.Shelf.SlSortCmp.NoneTotal
namespace Go.Proofs.YtflkddllofeiaaaGreatDoor
set_option linter.unusedSimpArgs false
set_option linter.unusedVariables false
open Go.RowKit Go.MapKept Go.ChangeMaps Go.Maps Go.Sort

instance : Inhabited Key := ⟨⟨0, 0⟩⟩
theorem ltOfK (x y : Key) : ltOf cmpK x y = decide (ltK x y) := by
  unfold ltOf
  rw [Bool.eq_iff_iff]
  simp [cmpK_lt]
theorem ltOf_t {x y : Key} : ltOf cmpK x y = true ↔ ltK x y := by rw [ltOfK]; exact decide_eq_true_iff
theorem ltOf_f {x y : Key} : ltOf cmpK x y = false ↔ ¬ ltK x y := by rw [ltOfK]; exact decide_eq_false_iff_not
theorem ltK_swo : SWO (ltOf cmpK) where
  irrefl x := ltOf_f.2 (by unfold ltK; omega)
  trans x y z h1 h2 := by rw [ltOf_t] at *; unfold ltK at *; omega
  ntrans x y z h1 h2 := by rw [ltOf_f] at *; unfold ltK at *; omega
theorem ltK_total (x y : Key) (h1 : ltOf cmpK x y = false) (h2 : ltOf cmpK y x = false) : x = y := by
  rw [ltOf_f] at *
  unfold ltK at *
  have h3 : x.acc = y.acc := by omega
  have h4 : x.ast = y.ast := by omega
  cases x; cases y
  simp_all
theorem key_isAgg (w : World) : (isAgg (sortKeys_ren.t 24)).run Tryz.prog w = .ok true w := by kernel_rfl
theorem infoKeyS : (Tryz.prog.info? 33).map (fun i => (i.zero, i.size, i.bytes)) = some (some (.agg #[.int .i64 0, .int .i64 0]), 2, 16) := by kernel_rfl
theorem key_size (w : World) : (Go.sizeOf (sortKeys_ren.t 24)).run Tryz.prog w = .ok 2 w := by
  obtain ⟨j, hj, _, hs, _⟩ := info_parts infoKeyS
  show (Go.sizeOf 33).run Tryz.prog w = .ok 2 w
  simp [sizeOf, typeInfo, hj, hs, go_sem]
theorem sort_none (p : Option Addr) (c : Nat) (fv : Value) (w : World) : Calls Tryz.prog 43 #[.slice p 0 c, fv] w fun e w' => e = .returned (.tuple #[]) ∧ w' = w :=
  AnyF.slices_SortFunc_none sortKeys p c fv w
theorem keyCs_one (x : Key) : ∀ v ∈ x.cs, v.oneCell' = true := by
  intro v hv
  simp only [Key.cs, List.mem_cons, List.not_mem_nil, or_false] at hv
  rcases hv with rfl | rfl <;> rfl
/-- The keys in their order. -/
def srtK (l : List Key) : List Key := l.mergeSort (fun x y => !ltOf cmpK y x)
theorem srtK_perm (l : List Key) : (srtK l).Perm l := List.mergeSort_perm l _
theorem srtK_len (l : List Key) : (srtK l).length = l.length := (srtK_perm l).length_eq
theorem srtK_up {l : List Key} (hn : l.Nodup) : (srtK l).Pairwise ltK := by
  have h1 : (srtK l).Pairwise (fun x y => (!ltOf cmpK y x) = true) := List.pairwise_mergeSort (fun a b c h1 h2 => by
    rw [Bool.not_eq_true', ltOf_f] at *
    unfold ltK at *
    omega) (fun a b => by
    rw [Bool.or_eq_true, Bool.not_eq_true', Bool.not_eq_true', ltOf_f, ltOf_f]
    unfold ltK
    omega) l
  have h2 : (srtK l).Pairwise (fun x y => x ≠ y) := (srtK_perm l).nodup_iff.2 hn
  refine (h1.and h2).imp (fun {x y} h => ?_)
  obtain ⟨h3, h4⟩ := h
  rw [Bool.not_eq_true', ltOf_f] at h3
  have : ¬ (x.acc = y.acc ∧ x.ast = y.ast) := fun e => h4 (by cases x; cases y; simp_all)
  unfold ltK at *
  omega
theorem sort_some (l : List Key) (base g c : Nat) (w : World) (h : w.ownsRow base 33 2 (.slice (some ⟨g, 0, none⟩) l.length c) l.length (keysC l)) (hl : l.length < 4611686018427387904) :
    Calls Tryz.prog 43 #[.slice (some ⟨g, 0, none⟩) l.length c, .func (.func 44) #[] #[]] w
      fun e w' => e = .returned (.tuple #[]) ∧ w'.ownsRow base 33 2 (.slice (some ⟨g, 0, none⟩) l.length c) l.length (keysC (srtK l)) ∧ But w w' (fun i => i = g) := by
  have hk : ∀ x : Key, x.cs.length = 2 := fun _ => rfl
  have hg : g < w.heap.size := own_lt h rfl
  have eg : ∀ args w, (callFunc 44 args).run Tryz.prog w = .ok (.enter 44 args) w := enters_of Tryz.func44 (by kernel_rfl) rfl
  have hcon := Go.Proofs.AnyQ.slices_SortFunc_total sortKeys 2 key_isAgg key_size Key.cs hk keyCs_one cmpK ltK_swo 44 #[] g 0 c l.toArray w eg (fun _ _ _ _ x y => keyCmp_calls x y _) (own_holds hk h) hg (by simpa using hl) ltK_total
  rw [show l.toArray.size = l.length by simp] at hcon
  refine Calls.mono (show Calls Tryz.prog 43 _ _ _ from hcon) ?_
  rintro e w' ⟨he, n, os, hw⟩
  obtain ⟨h1, h2, h3, h4, h5, h6⟩ := own_sorted (w' := w') hk keyCs_one h (srtK_len l) (n := n) (os := os) (by rw [hw]; rfl)
  rw [srtK_len] at h1
  exact ⟨he, h1, ⟨h2, h3, h4, h5, h6⟩⟩
end Go.Proofs.YtflkddllofeiaaaGreatDoor
