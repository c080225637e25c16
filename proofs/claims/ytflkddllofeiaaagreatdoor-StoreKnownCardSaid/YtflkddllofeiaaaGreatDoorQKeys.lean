/- The keys of the queue's maps: whole numbers, keys of the ledger, pointers. -/
import Derived.Test.YtflkddllofeiaaaGreatDoorMap2
import Derived.Test.YtflkddllofeiaaaGreatDoorKit0
import Derived.Laws.StructEq
namespace Go.Proofs.YtflkddllofeiaaaGreatDoor
set_option linter.unusedSimpArgs false
set_option linter.unusedVariables false
open Go.RowKit Go.MapKept Go.ChangeMaps Go.Maps

instance decKey : DecidableEq Key := fun a b => decidable_of_iff (a.acc = b.acc ∧ a.ast = b.ast) ⟨fun h => by cases a; cases b; simp_all, fun h => by subst h; exact ⟨rfl, rfl⟩⟩
def eI (n : Int) : Value := .int .i64 n
def eK (k : Key) : Value := .agg #[.int .i64 k.acc, .int .i64 k.ast]
def eP (b : Nat) : Value := .pointer (some ⟨b, 0, none⟩)
def eM (b : Nat) : Value := .map (some b)
theorem eI_inj {x y : Int} (h : eI x = eI y) : x = y := by unfold eI at h; simpa using h
theorem eK_inj {x y : Key} (h : eK x = eK y) : x = y := by unfold eK at h; cases x; cases y; simp_all
theorem eP_inj {x y : Nat} (h : eP x = eP y) : x = y := by unfold eP at h; simpa using h
def wfI (n : Int) : Prop := (Lit.int .i64 n).wf = true
theorem keyE_int (w : World) : KeyE Tryz.prog 3 w eI wfI :=
  KeyE.of_keyed (int_keyed Tryz.underlying3) (fun n => .int .i64 n) (fun x hx => keyOf_int_mk Tryz.underlying3 hx) eI_inj
theorem eqKeyIn (d : Nat) (w : World) (x y : Key) : (Op.equalIn (d + 2) 33 (eK x) (eK y)).run Tryz.prog w = .ok (decide (x = y)) w := by
  have hS : Tryz.prog.underlying 33 = some (.struct (Tryz.prog.fieldsOf 33)) := by kernel_rfl
  have hp : Tryz.prog.stoodInHeld 33 = false := by kernel_rfl
  unfold eK
  rw [run_equalIn_struct w (d + 1) _ _ _ hS hp]
  simp only [Program.fieldsOf, Tryz.underlying33]
  go_simp
  by_cases h1 : x.acc = y.acc
  · by_cases h2 : x.ast = y.ast
    · have : x = y := by cases x; cases y; simp_all
      rw [if_pos h1, decide_eq_true this]
      simp [h2]
    · have : x ≠ y := fun h => h2 (by rw [h])
      rw [if_pos h1, decide_eq_false this]
      simp [h2]
  · have : x ≠ y := fun h => h1 (by rw [h])
    rw [if_neg h1, decide_eq_false this]
theorem eqKey (w : World) (x y : Key) : (Op.equal 33 (eK x) (eK y)).run Tryz.prog w = .ok (decide (x = y)) w := by
  simp [Op.equal, Op.maxDepth, eqKeyIn 9998 w x y]
theorem checkKeyK (em : Bool) (d : Nat) (w : World) (x : Key) : (Instr.checkKey em (d + 2) 33 (eK x)).run Tryz.prog w = .ok () w := by
  unfold eK
  simp [Instr.checkKey, run_underlying Tryz.underlying33, run_underlying Tryz.underlying3, go_sem]
theorem keyE_key (w : World) : KeyE Tryz.prog 33 w eK (fun _ => True) :=
  KeyE.of_equal Tryz.underlying33 (fun x y => rfl) eK_inj (fun _ _ => eqKey w _ _) (fun em x _ => checkKeyK em 9998 w x) (fun {x} _ => by simp [Instr.keyThatStays, Instr.sameBits, eK])
end Go.Proofs.YtflkddllofeiaaaGreatDoor
