/- The law's own helpers: has, Meets, turn by contracts. -/
import Derived.Test.YtmcknfpohnobdaaDoorQ6
namespace Go.Proofs.YtmcknfpohnobdaaDoor
set_option linter.unusedSimpArgs false
set_option linter.unusedVariables false
open Go.RowKit Go.MapKept Go.ChangeMaps Go.Maps

theorem eqlKey (w : World) (x y : Key) : (binOp .eql 48 (.agg #[.int .i64 x.acc, .int .i64 x.ast]) (.agg #[.int .i64 y.acc, .int .i64 y.ast])).run Tryd.prog w = .ok (.bool (decide (x = y))) w := by
  have h : (Op.equalIn 10000 48 (.agg #[.int .i64 x.acc, .int .i64 x.ast]) (.agg #[.int .i64 y.acc, .int .i64 y.ast])).run Tryd.prog w = .ok (decide (x = y)) w := eqKeyIn 9998 w x y
  rw [run_eql_struct, h]
  rfl
/-- The same world after some draws. -/
def Drn (w w' : World) : Prop := ∃ n, w' = w.drewN n
theorem Drn.refl (w : World) : Drn w w := ⟨0, rfl⟩
theorem Drn.drew {w w' : World} (h : Drn w w') : Drn w w'.drew := by
  obtain ⟨n, rfl⟩ := h
  exact ⟨n + 1, rfl⟩
theorem Drn.below {w w' : World} (h : Drn w w') : Below w.heap.size w w' := by
  obtain ⟨n, rfl⟩ := h
  exact below_drewN (Below.refl _ _) _
set_option maxRecDepth 100000 in
set_option maxHeartbeats 4000000 in
theorem meets_draws (a b : List Key) (A B : Option Addr) (ca cb : Nat) (w : World) (ha : Reads w w.heap.size 2 A a.length (keysC a)) (hb : Reads w w.heap.size 2 B b.length (keysC b)) (hla : a.length ≤ 4611686018427387904) (hlb : b.length ≤ 4611686018427387904) :
    Calls Tryd.prog 44 #[.slice A a.length ca, .slice B b.length cb] w fun e w' => e = .returned (.bool (meets a b)) ∧ Drn w w' := by
  have HA := Lib.hid ha
  have HB := Lib.hid hb
  clear ha hb
  go_enter Tryd.func44, Tryd.ntmps44
  go_wp2_with (fail)
  go_loopw [5] (fun i wr => ∃ k : Nat, k ≤ a.length ∧ i = .int .i64 k ∧ (∀ x ∈ a.take k, x ∉ b) ∧ Drn w wr) (fun i _ => a.length - (intOf i).toNat)
  case atStart => exact ⟨0, Nat.zero_le _, rfl, by simp, Drn.refl _⟩
  case round =>
    obtain ⟨k, hk, rfl, hno, hbl⟩ := hrel
    have HNO := Lib.hid hno
    have HBL := Lib.hid hbl
    clear hno hbl
    by_cases hlt : k < a.length
    · have hkl : (k : Int) < a.length := by omega
      have hT : a.take (k + 1) = a.take k ++ [a[k]] := List.take_succ_eq_append_getElem hlt
      have hmem : a[k] ∈ a := List.getElem_mem hlt
      have hcell := fun (W : World) (h : Drn w W) => keys_at (HA.out.below h.below) hlt
      obtain ⟨x, hx⟩ : ∃ x, a[k] = x := ⟨_, rfl⟩
      rw [hx] at hT hmem hcell
      have HC := Lib.hid hcell
      have HT := Lib.hid hT
      have HM := Lib.hid hmem
      clear hx hT hmem hcell
      go_wp2_with (fail)
      go_loopw [6] (fun j wr2 => ∃ m : Nat, m ≤ b.length ∧ j = .int .i64 m ∧ x ∉ b.take m ∧ Drn w wr2) (fun j _ => b.length - (intOf j).toNat)
      case atStart => exact ⟨0, Nat.zero_le _, rfl, by simp, HBL.out⟩
      case round =>
        obtain ⟨m, hm, rfl, hno2, hbl2⟩ := hrel
        have HNO2 := Lib.hid hno2
        have HBL2 := Lib.hid hbl2
        clear hno2 hbl2
        by_cases hlt2 : m < b.length
        · have hml : (m : Int) < b.length := by omega
          obtain ⟨WD, hWD⟩ : ∃ X, wr.drew = X := ⟨_, rfl⟩
          have hbd : Drn w WD := hWD ▸ HBL2.out.drew
          obtain ⟨ad, rfl, _, k0, k1⟩ := HC.out WD hbd
          obtain ⟨bd, rfl, _, l0, l1⟩ := keys_at (HB.out.below hbd.below) hlt2
          have hT2 : b.take (m + 1) = b.take m ++ [b[m]] := List.take_succ_eq_append_getElem hlt2
          have hmem2 : b[m] ∈ b := List.getElem_mem hlt2
          generalize b[m] = y at l0 l1 hT2 hmem2
          have HBD := Lib.hid hbd
          clear hbd
          by_cases he : x = y
          · have hr : meets a b = true := List.any_eq_true.2 ⟨x, HM.out, by rw [he]; exact decide_eq_true hmem2⟩
            have HD := Lib.hid hr
            clear hr hT2 hmem2
            subst he
            go_wp2_with (fail)
            refine region_tail 8 (by kernel_rfl) (by kernel_rfl) ?_
            rw [hWD]
            simp only [List.take_succ_cons, List.take_zero, List.drop_succ_cons, List.drop_zero]
            repeat still_step
            refine wpStill_nil ?_
            clear k0 k1 l0 l1
            go_wp2
            go_ret
            exact ⟨by rw [HD.out]; rfl, HBD.out⟩
          · have HNN : Hid (x ∉ b.take (m + 1)) := by
              show _ ∉ _
              rw [hT2]
              simp only [List.mem_append, List.mem_singleton, not_or]
              exact ⟨HNO2.out, he⟩
            rcases Classical.em (x.acc = y.acc) with h1 | h1
            · have h2 : ¬ x.ast = y.ast := fun h2 => he (by cases x; cases y; simp_all)
              clear he hT2 hmem2
              go_wp2_with (fail)
              refine region_tail 8 (by kernel_rfl) (by kernel_rfl) ?_
              rw [hWD]
              simp only [List.take_succ_cons, List.take_zero, List.drop_succ_cons, List.drop_zero]
              repeat still_step
              refine wpStill_nil ?_
              clear k0 k1 l0 l1
              go_wp2
              go_roundw
              case rel => exact ⟨m + 1, by omega, by go_num, HNN.out, HBD.out⟩
              case measure => simp [intOf]; omega
            · clear he hT2 hmem2
              go_wp2_with (fail)
              refine region_tail 8 (by kernel_rfl) (by kernel_rfl) ?_
              rw [hWD]
              simp only [List.take_succ_cons, List.take_zero, List.drop_succ_cons, List.drop_zero]
              repeat still_step
              refine wpStill_nil ?_
              clear k0 k1 l0 l1
              go_wp2
              go_roundw
              case rel => exact ⟨m + 1, by omega, by go_num, HNN.out, HBD.out⟩
              case measure => simp [intOf]; omega
        · obtain rfl : m = b.length := by omega
          have hno3 := HNO2.out
          rw [List.take_length] at hno3
          have HN3 := Lib.hid hno3
          clear hno3
          go_wp2
          go_roundw
          case rel =>
            refine ⟨k + 1, by omega, by go_num, fun z hz => ?_, HBL2.out⟩
            rw [HT.out] at hz
            rcases List.mem_append.1 hz with h | h
            · exact HNO.out z h
            · rw [List.mem_singleton.1 h]; exact HN3.out
          case measure => simp [intOf]; omega
    · obtain rfl : k = a.length := by omega
      have hr : meets a b = false := by
        have := HNO.out
        rw [List.take_length] at this
        exact List.any_eq_false.2 (fun x hx => by simpa using this x hx)
      have HD := Lib.hid hr
      clear hr
      go_wp2
      go_ret
      exact ⟨by rw [HD.out]; rfl, HBL.out⟩

theorem meets_calls (a b : List Key) (A B : Option Addr) (ca cb : Nat) (w : World) (ha : Reads w w.heap.size 2 A a.length (keysC a)) (hb : Reads w w.heap.size 2 B b.length (keysC b)) (hla : a.length ≤ 4611686018427387904) (hlb : b.length ≤ 4611686018427387904) :
    Calls Tryd.prog 44 #[.slice A a.length ca, .slice B b.length cb] w fun e w' => e = .returned (.bool (meets a b)) ∧ Below w.heap.size w w' :=
  (meets_draws a b A B ca cb w ha hb hla hlb).mono (fun _ _ h => ⟨h.1, h.2.below⟩)

def turnL (l : List Key) : List Key := l.reverse ++ l.take 1
theorem turnL_mem (l : List Key) (x : Key) : x ∈ turnL l ↔ x ∈ l := by
  unfold turnL
  rw [List.mem_append, List.mem_reverse]
  exact ⟨fun h => h.elim id List.mem_of_mem_take, .inl⟩
theorem turnL_len (l : List Key) : (turnL l).length ≤ l.length + 1 := by unfold turnL; simp; omega
end Go.Proofs.YtmcknfpohnobdaaDoor
