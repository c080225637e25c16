/- The law QueueLoses of custodylaw19: its row, for every input, out of its walk. -/
import Derived.Test.YtmcknfpohnobdaaRows
import Derived.Test.YtmcknfpohnobdaaQ22
import Derived.WalkKit
import Derived.ProofKit
import Derived.OpenShut
import Derived.ShutString
import Derived.ChangeOld
import Derived.Below
import Derived.SizedLaws
import Derived.ChangeSame
import Derived.ChangeVars
import Derived.JoinedOf
import Derived.RowKit
import Derived.RowKitTokens
import Derived.LaidLaws
import Derived.LaidHandle
import Derived.Stop.Joined
namespace Go.Proofs.Ytmcknfpohnobdaa.queueLoses
set_option linter.unusedSimpArgs false
open Go.ChangeShapes Go.WideShapes Go.RowKit Go.Joins Go.Deep
open Go.ChangeMaps (open_string shut_string)
set_option linter.unusedVariables false
theorem own : ownKnob Try.prog.godebug = none := by kernel_rfl
theorem laidOut : laidOutB Try.prog = true := by kernel_rfl
set_option maxRecDepth 100000 in
set_option maxHeartbeats 4000000 in
theorem lifted (os : Os) (started : os.Started) (H : Type) (enc : TypeId × Value → H) :
    ReturnsInHanded {} Try.checked os 3 .any (Rows.queueLosesSpec.pre6 enc Try.prog Try.f3 Rows.queueLosesRow.domain false) (Rows.queueLosesSpec.post enc Try.prog Try.f3 false true false false) := by
  refine returnsInHanded_of_change_sized (C := Try.checked) own started (by kernel_rfl) Try.func3
    (ChangeSpec.witness6 (enc := enc) (C := Try.checked) false ⟨#[], #[.int .i64 0, .slice none 0 0], []⟩ 8 (by kernel_rfl) (by kernel_rfl) (by kernel_rfl) (by kernel_rfl)) ?_
  intro W base args ds gs before hval0 hW hcnd hsz0 _
  have hsz : (DataW.weightsEach Try.prog (Try.f3.params.toList ++ Rows.queueLosesSpec.plain.varTypes Try.prog) (ds ++ gs)).all (· ≤ reachBytes) = true := hsz0
  have hval : ∀ (j : Nat) t v, Try.f3.params[j]? = some t → args[j]? = some v → Value.okWide Try.prog W .any base t v := hval0
  have hW' := hW
  obtain ⟨p, q, hA0, hV, rfl, hfz, hnd⟩ := hW
  have hA : DataW.TrodAll enc Try.prog W 0 (fun _ => true) true Try.f3.params.toList args.toList ds p := hA0
  rw [Try.params3] at hA hval hsz
  obtain ⟨v0, vs0, d0, ds0, p0, q0, hargs, rfl, rfl, h0, r0⟩ := trodAll_cons hA
  obtain ⟨v1, vs1, d1, ds1, p1, q1, rfl, rfl, rfl, h1, r1⟩ := trodAll_cons r0
  obtain ⟨rfl, rfl, rfl⟩ := trodAll_nil r1
  obtain rfl : args = #[v0, v1] := by cases args; simp_all
  obtain ⟨rfl, rfl⟩ := trodVars_none hV
  have k0 := h0
  have lt0 : ∀ x ∈ p0, x.block < W.heap.size := by obtain ⟨m, hm⟩ := k0; exact DataW.trod_lt m _ _ _ hm
  have hv0 : Value.okWide Try.prog W .any base 3 v0 := hval 0 3 v0 rfl rfl
  obtain ⟨room, rfl, _, _, hwroom⟩ := open_int Try.underlying3 hv0 h0
  have k1 := h1
  have lt1 : ∀ x ∈ p1, x.block < W.heap.size := by obtain ⟨m, hm⟩ := k1; exact DataW.trod_lt m _ _ _ hm
  have hv1 : Value.okWide Try.prog W .any base 22 v1 := hval 1 22 v1 rfl rfl
  obtain ⟨a_os, l_os, c_os, rfl⟩ := okWide_slice Try.underlying22 hv1
  obtain ⟨n_os, g_os⟩ := h1
  have g_os : DataW.trod enc Try.prog W 0 (fun _ => true) true n_os 22 [.slice a_os l_os c_os] = some _ := g_os
  obtain ⟨os, A_os, cc_os, e_, _, ros, qos, bos⟩ := open_deep (en := OpQ.cs) OpQ.len Try.underlying22 (show Try.prog.cellsOf 29 = 4 by kernel_rfl) (by decide) (fun n cs y hl h hw => opq_el Try.underlying29 (by rfl) (by kernel_rfl) Try.underlying27 Try.underlying57 (by rfl) Try.underlying3 (by kernel_rfl) (by kernel_rfl) (by kernel_rfl) n cs y hl h hw) g_os (weights_each hsz (j := 1) rfl rfl)
  injection e_ with e_0 e_1 e_2
  subst e_0 e_1 e_2
  rw [show Try.prog.bytesOf 29 = 48 by kernel_rfl] at bos
  clear g_os
  refine (lawLoses_calls room os a_os c_os W ros qos bos).mono fun e W' ⟨he, bel⟩ => ?_
  subst he
  exact ⟨_, rfl, _, _, _, [], _, [], hW', trodAll_mk1 (shut_bool Try.underlying4 _), (trodAll_cons_mk (Below.trod laidOut (by kernel_rfl) (of_decide_eq_true (by kernel_rfl)) k0 bel lt0) (trodAll_cons_mk (Below.trod laidOut (by kernel_rfl) (of_decide_eq_true (by kernel_rfl)) k1 bel lt1) trodAll_mk0)), rfl, bel.frame _, fun h => by cases h⟩
theorem over : Rows.queueLosesRow.holds Try.pinned (OpenSpec.ofChange Rows.queueLosesSpec) :=
  OpenClaim.holds_of_wide 3 Try.f3 rfl rfl rfl rfl rfl rfl rfl ⟨rfl, rfl, rfl, rfl, rfl⟩ rfl rfl rfl rfl rfl (by kernel_rfl) Try.func3 (by kernel_rfl)
    (of_decide_eq_true (by kernel_rfl)) (by unfold Func.isWrapper; first | (rw [if_pos (by decide +kernel)]; kernel_rfl) | (rw [if_neg (by decide +kernel)]; exact ⟨rfl, rfl⟩))
    (fun os started H enc _ => lifted os started H enc)
theorem proved : Rows.QueueLosesSaid := over
#print axioms proved
end Go.Proofs.Ytmcknfpohnobdaa.queueLoses
namespace Go.Proofs.Ytmcknfpohnobdaa
/-- The row, under a short name, for the claim. -/
theorem queueLoses_holds : Rows.QueueLosesSaid := queueLoses.proved
end Go.Proofs.Ytmcknfpohnobdaa
