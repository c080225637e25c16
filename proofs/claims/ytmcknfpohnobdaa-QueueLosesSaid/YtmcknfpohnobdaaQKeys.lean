/- The keys of the queue's maps: whole numbers, keys of the ledger, pointers. -/
import Derived.Test.YtmcknfpohnobdaaMap2
import Derived.Test.YtmcknfpohnobdaaKit0
import Derived.Laws.StructEq
namespace Go.Proofs.Ytmcknfpohnobdaa
set_option linter.unusedSimpArgs false
set_option linter.unusedVariables false
open Go.RowKit Go.MapKept Go.ChangeMaps Go.Maps

instance decKey : DecidableEq Key := fun a b => decidable_of_iff (a.acc = b.acc ∧ a.ast = b.ast) ⟨fun h => by cases a; cases b; simp_all, fun h => by subst h; exact ⟨rfl, rfl⟩⟩
def eI (n : Int) : Value := .int .i64 n
def eK (k : Key) : Value := .agg #[.int .i64 k.acc, .int .i64 k.ast]
def eP (b : Nat) : Value := .pointer (some ⟨b, 0, none⟩)
def eM (b : Nat) : Value := .map (some b)
theorem eI_inj {x y : Int} (h : eI x = eI y) : x = y := by unfold eI at h; simpa using h
theorem eK_inj {x y : Key} (h : eK x = eK y) : x = y := by unfold eK at h; cases x; cases y; simp_all
theorem eP_inj {x y : Nat} (h : eP x = eP y) : x = y := by unfold eP at h; simpa using h
def wfI (n : Int) : Prop := (Lit.int .i64 n).wf = true
theorem keyE_int (w : World) : KeyE Try.prog 3 w eI wfI :=
  KeyE.of_keyed (int_keyed Try.underlying3) (fun n => .int .i64 n) (fun x hx => keyOf_int_mk Try.underlying3 hx) eI_inj
theorem eqKeyIn (d : Nat) (w : World) (x y : Key) : (Op.equalIn (d + 2) 57 (eK x) (eK y)).run Try.prog w = .ok (decide (x = y)) w := by
  have hS : Try.prog.underlying 57 = some (.struct (Try.prog.fieldsOf 57)) := by kernel_rfl
  have hp : Try.prog.stoodInHeld 57 = false := by kernel_rfl
  unfold eK
  rw [run_equalIn_struct w (d + 1) _ _ _ hS hp]
  simp only [Program.fieldsOf, Try.underlying57]
  go_simp
  by_cases h1 : x.acc = y.acc
  · by_cases h2 : x.ast = y.ast
    · have : x = y := by cases x; cases y; simp_all
      rw [if_pos h1, decide_eq_true this]
      simp [h2]
    · have : x ≠ y := fun h => h2 (by rw [h])
      rw [if_pos h1, decide_eq_false this]
      simp [h2]
  · have : x ≠ y := fun h => h1 (by rw [h])
    rw [if_neg h1, decide_eq_false this]
theorem eqKey (w : World) (x y : Key) : (Op.equal 57 (eK x) (eK y)).run Try.prog w = .ok (decide (x = y)) w := by
  simp [Op.equal, Op.maxDepth, eqKeyIn 9998 w x y]
theorem checkKeyK (em : Bool) (d : Nat) (w : World) (x : Key) : (Instr.checkKey em (d + 2) 57 (eK x)).run Try.prog w = .ok () w := by
  unfold eK
  simp [Instr.checkKey, run_underlying Try.underlying57, run_underlying Try.underlying3, go_sem]
theorem keyE_key (w : World) : KeyE Try.prog 57 w eK (fun _ => True) :=
  KeyE.of_equal Try.underlying57 (fun x y => rfl) eK_inj (fun _ _ => eqKey w _ _) (fun em x _ => checkKeyK em 9998 w x) (fun {x} _ => by simp [Instr.keyThatStays, Instr.sameBits, eK])
/-- A pointer to an entry. -/
def IsEnt (w : World) (b : Nat) : Prop := ∃ cs, Blk w b 64 cs
theorem eqEnt (w : World) {a b : Nat} (ha : IsEnt w a) (hb : IsEnt w b) : (Op.equal 60 (eP a) (eP b)).run Try.prog w = .ok (decide (a = b)) w := by
  obtain ⟨ca, ha⟩ := ha
  obtain ⟨cb, hb⟩ := hb
  obtain ⟨j, hj⟩ : ∃ j, Try.prog.info? 64 = some j := ⟨_, rfl⟩
  have hsz : j.size ≠ 0 := by
    have : (Try.prog.info? 64).map (·.size) = some 6 := by kernel_rfl
    rw [hj] at this
    have h6 : j.size = 6 := by simpa using this
    omega
  by_cases h : a = b
  · subst h
    have h1 : ∀ d : Nat, (Op.equalIn (d + 1) 60 (eP a) (eP a)).run Try.prog w = .ok true w := fun d => by
      simp [Op.equalIn, eP, run_underlying Try.underlying60, sizeOf, typeInfo, hj, hsz, run_sameAddr_same]
    simp [Op.equal, Op.maxDepth, h1 9999]
  · have h1 : ∀ d : Nat, (Op.equalIn (d + 1) 60 (eP a) (eP b)).run Try.prog w = .ok false w := fun d => by
      simp [Op.equalIn, eP, run_underlying Try.underlying60, sizeOf, typeInfo, hj, hsz, run_sameAddr_other w (a := ⟨a, 0, none⟩) (b := ⟨b, 0, none⟩) (by simp [h]) ha hb]
    simp [Op.equal, Op.maxDepth, h1 9999, h]
theorem checkKeyP (em : Bool) (d : Nat) (w : World) (b : Nat) : (Instr.checkKey em (d + 1) 60 (eP b)).run Try.prog w = .ok () w := by
  unfold eP
  simp [Instr.checkKey, run_underlying Try.underlying60]
theorem keyE_ent (w : World) : KeyE Try.prog 60 w eP (IsEnt w) :=
  KeyE.of_equal Try.underlying60 (fun x y => rfl) eP_inj (fun h1 h2 => eqEnt w h1 h2) (fun em x _ => checkKeyP em 9999 w x) (fun {x} _ => by simp [Instr.keyThatStays, Instr.sameBits, eP])
end Go.Proofs.Ytmcknfpohnobdaa
