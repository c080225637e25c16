/- The keys of the queue's maps: whole numbers, keys of the ledger, pointers. -/
import Derived.Test.YtmcknfpohnobdaaDoorMap2
import Derived.Test.YtmcknfpohnobdaaDoorKit0
import Derived.Laws.StructEq
namespace Go.Proofs.YtmcknfpohnobdaaDoor
set_option linter.unusedSimpArgs false
set_option linter.unusedVariables false
open Go.RowKit Go.MapKept Go.ChangeMaps Go.Maps

instance decKey : DecidableEq Key := fun a b => decidable_of_iff (a.acc = b.acc ∧ a.ast = b.ast) ⟨fun h => by cases a; cases b; simp_all, fun h => by subst h; exact ⟨rfl, rfl⟩⟩
def eI (n : Int) : Value := .int .i64 n
def eK (k : Key) : Value := .agg #[.int .i64 k.acc, .int .i64 k.ast]
def eP (b : Nat) : Value := .pointer (some ⟨b, 0, none⟩)
def eM (b : Nat) : Value := .map (some b)
theorem eI_inj {x y : Int} (h : eI x = eI y) : x = y := by unfold eI at h; simpa using h
theorem eK_inj {x y : Key} (h : eK x = eK y) : x = y := by unfold eK at h; cases x; cases y; simp_all
theorem eP_inj {x y : Nat} (h : eP x = eP y) : x = y := by unfold eP at h; simpa using h
def wfI (n : Int) : Prop := (Lit.int .i64 n).wf = true
theorem keyE_int (w : World) : KeyE Tryd.prog 3 w eI wfI :=
  KeyE.of_keyed (int_keyed Tryd.underlying3) (fun n => .int .i64 n) (fun x hx => keyOf_int_mk Tryd.underlying3 hx) eI_inj
theorem eqKeyIn (d : Nat) (w : World) (x y : Key) : (Op.equalIn (d + 2) 48 (eK x) (eK y)).run Tryd.prog w = .ok (decide (x = y)) w := by
  have hS : Tryd.prog.underlying 48 = some (.struct (Tryd.prog.fieldsOf 48)) := by kernel_rfl
  have hp : Tryd.prog.stoodInHeld 48 = false := by kernel_rfl
  unfold eK
  rw [run_equalIn_struct w (d + 1) _ _ _ hS hp]
  simp only [Program.fieldsOf, Tryd.underlying48]
  go_simp
  by_cases h1 : x.acc = y.acc
  · by_cases h2 : x.ast = y.ast
    · have : x = y := by cases x; cases y; simp_all
      rw [if_pos h1, decide_eq_true this]
      simp [h2]
    · have : x ≠ y := fun h => h2 (by rw [h])
      rw [if_pos h1, decide_eq_false this]
      simp [h2]
  · have : x ≠ y := fun h => h1 (by rw [h])
    rw [if_neg h1, decide_eq_false this]
theorem eqKey (w : World) (x y : Key) : (Op.equal 48 (eK x) (eK y)).run Tryd.prog w = .ok (decide (x = y)) w := by
  simp [Op.equal, Op.maxDepth, eqKeyIn 9998 w x y]
theorem checkKeyK (em : Bool) (d : Nat) (w : World) (x : Key) : (Instr.checkKey em (d + 2) 48 (eK x)).run Tryd.prog w = .ok () w := by
  unfold eK
  simp [Instr.checkKey, run_underlying Tryd.underlying48, run_underlying Tryd.underlying3, go_sem]
theorem keyE_key (w : World) : KeyE Tryd.prog 48 w eK (fun _ => True) :=
  KeyE.of_equal Tryd.underlying48 (fun x y => rfl) eK_inj (fun _ _ => eqKey w _ _) (fun em x _ => checkKeyK em 9998 w x) (fun {x} _ => by simp [Instr.keyThatStays, Instr.sameBits, eK])
/-- A pointer to an entry. -/
def IsEnt (w : World) (b : Nat) : Prop := ∃ cs, Blk w b 68 cs
theorem eqEnt (w : World) {a b : Nat} (ha : IsEnt w a) (hb : IsEnt w b) : (Op.equal 63 (eP a) (eP b)).run Tryd.prog w = .ok (decide (a = b)) w := by
  obtain ⟨ca, ha⟩ := ha
  obtain ⟨cb, hb⟩ := hb
  obtain ⟨j, hj, _⟩ := Option.map_eq_some_iff.1 (show (Tryd.prog.info? 68).map (·.size) = some 6 by kernel_rfl)
  have hsz : j.size ≠ 0 := by
    have : (Tryd.prog.info? 68).map (·.size) = some 6 := by kernel_rfl
    rw [hj] at this
    have h6 : j.size = 6 := by simpa using this
    omega
  by_cases h : a = b
  · subst h
    have h1 : ∀ d : Nat, (Op.equalIn (d + 1) 63 (eP a) (eP a)).run Tryd.prog w = .ok true w := fun d => by
      simp [Op.equalIn, eP, run_underlying Tryd.underlying63, sizeOf, typeInfo, hj, hsz, run_sameAddr_same]
    simp [Op.equal, Op.maxDepth, h1 9999]
  · have h1 : ∀ d : Nat, (Op.equalIn (d + 1) 63 (eP a) (eP b)).run Tryd.prog w = .ok false w := fun d => by
      simp [Op.equalIn, eP, run_underlying Tryd.underlying63, sizeOf, typeInfo, hj, hsz, run_sameAddr_other w (a := ⟨a, 0, none⟩) (b := ⟨b, 0, none⟩) (by simp [h]) ha hb]
    simp [Op.equal, Op.maxDepth, h1 9999, h]
theorem checkKeyP (em : Bool) (d : Nat) (w : World) (b : Nat) : (Instr.checkKey em (d + 1) 63 (eP b)).run Tryd.prog w = .ok () w := by
  unfold eP
  simp [Instr.checkKey, run_underlying Tryd.underlying63]
theorem keyE_ent (w : World) : KeyE Tryd.prog 63 w eP (IsEnt w) :=
  KeyE.of_equal Tryd.underlying63 (fun x y => rfl) eP_inj (fun h1 h2 => eqEnt w h1 h2) (fun em x _ => checkKeyP em 9999 w x) (fun {x} _ => by simp [Instr.keyThatStays, Instr.sameBits, eP])
end Go.Proofs.YtmcknfpohnobdaaDoor
