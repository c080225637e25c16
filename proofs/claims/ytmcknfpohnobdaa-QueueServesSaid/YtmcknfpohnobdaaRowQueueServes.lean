/- The law QueueServes of custodylaw19: its row, for every input, out of its walk. -/
import Derived.Test.YtmcknfpohnobdaaRows
import Derived.Test.YtmcknfpohnobdaaQ10
import Derived.WalkKit
import Derived.ProofKit
import Derived.OpenShut
import Derived.ShutString
import Derived.ChangeOld
import Derived.Below
import Derived.SizedLaws
import Derived.ChangeSame
import Derived.ChangeVars
import Derived.JoinedOf
import Derived.RowKit
import Derived.RowKitTokens
import Derived.LaidLaws
import Derived.LaidHandle
import Derived.Stop.Joined
namespace Go.Proofs.Ytmcknfpohnobdaa.queueServes
set_option linter.unusedSimpArgs false
open Go.ChangeShapes Go.WideShapes Go.RowKit Go.Joins Go.Deep
open Go.ChangeMaps (open_string shut_string)
set_option linter.unusedVariables false
theorem own : ownKnob Try.prog.godebug = none := by kernel_rfl
theorem laidOut : laidOutB Try.prog = true := by kernel_rfl
set_option maxRecDepth 100000 in
set_option maxHeartbeats 4000000 in
theorem lifted (os : Os) (started : os.Started) (H : Type) (enc : TypeId × Value → H) :
    ReturnsInHanded {} Try.checked os 4 .any (Rows.queueServesSpec.pre6 enc Try.prog Try.f4 Rows.queueServesRow.domain false) (Rows.queueServesSpec.post enc Try.prog Try.f4 false true false false) := by
  refine returnsInHanded_of_change_sized (C := Try.checked) own started (by kernel_rfl) Try.func4
    (ChangeSpec.witness6 (enc := enc) (C := Try.checked) false ⟨#[], #[.slice none 0 0, .slice none 0 0], []⟩ 8 (by kernel_rfl) (by kernel_rfl) (by kernel_rfl) (by kernel_rfl)) ?_
  intro W base args ds gs before hval0 hW hcnd hsz0 _
  have hsz : (DataW.weightsEach Try.prog (Try.f4.params.toList ++ Rows.queueServesSpec.plain.varTypes Try.prog) (ds ++ gs)).all (· ≤ reachBytes) = true := hsz0
  have hval : ∀ (j : Nat) t v, Try.f4.params[j]? = some t → args[j]? = some v → Value.okWide Try.prog W .any base t v := hval0
  have hW' := hW
  obtain ⟨p, q, hA0, hV, rfl, hfz, hnd⟩ := hW
  have hA : DataW.TrodAll enc Try.prog W 0 (fun _ => true) true Try.f4.params.toList args.toList ds p := hA0
  rw [Try.params4] at hA hval hsz
  obtain ⟨v0, vs0, d0, ds0, p0, q0, hargs, rfl, rfl, h0, r0⟩ := trodAll_cons hA
  obtain ⟨v1, vs1, d1, ds1, p1, q1, rfl, rfl, rfl, h1, r1⟩ := trodAll_cons r0
  obtain ⟨rfl, rfl, rfl⟩ := trodAll_nil r1
  obtain rfl : args = #[v0, v1] := by cases args; simp_all
  obtain ⟨rfl, rfl⟩ := trodVars_none hV
  have k0 := h0
  have lt0 : ∀ x ∈ p0, x.block < W.heap.size := by obtain ⟨m, hm⟩ := k0; exact DataW.trod_lt m _ _ _ hm
  have hv0 : Value.okWide Try.prog W .any base 22 v0 := hval 0 22 v0 rfl rfl
  obtain ⟨a_es, l_es, c_es, rfl⟩ := okWide_slice Try.underlying22 hv0
  obtain ⟨n_es, g_es⟩ := h0
  have g_es : DataW.trod enc Try.prog W 0 (fun _ => true) true n_es 22 [.slice a_es l_es c_es] = some _ := g_es
  obtain ⟨es, A_es, cc_es, e_, _, res, qes, bes⟩ := open_deep (en := OpQ.cs) OpQ.len Try.underlying22 (show Try.prog.cellsOf 29 = 4 by kernel_rfl) (by decide) (fun n cs y hl h hw => opq_el Try.underlying29 (by rfl) (by kernel_rfl) Try.underlying27 Try.underlying57 (by rfl) Try.underlying3 (by kernel_rfl) (by kernel_rfl) (by kernel_rfl) n cs y hl h hw) g_es (weights_each hsz (j := 0) rfl rfl)
  injection e_ with e_0 e_1 e_2
  subst e_0 e_1 e_2
  rw [show Try.prog.bytesOf 29 = 48 by kernel_rfl] at bes
  clear g_es
  have k1 := h1
  have lt1 : ∀ x ∈ p1, x.block < W.heap.size := by obtain ⟨m, hm⟩ := k1; exact DataW.trod_lt m _ _ _ hm
  have hv1 : Value.okWide Try.prog W .any base 46 v1 := hval 1 46 v1 rfl rfl
  obtain ⟨a_ts, l_ts, c_ts, rfl⟩ := okWide_slice Try.underlying46 hv1
  obtain ⟨n_ts, g_ts⟩ := h1
  have g_ts : DataW.trod enc Try.prog W 0 (fun _ => true) true n_ts 46 [.slice a_ts l_ts c_ts] = some _ := g_ts
  obtain ⟨ts, A_ts, cc_ts, e_, _, rts, qts, bts⟩ := open_deep (en := TQ.cs) TQ.len Try.underlying46 (show Try.prog.cellsOf 27 = 1 by kernel_rfl) (by decide) (fun n cs y hl h hw => tq_el Try.underlying27 Try.underlying57 (by rfl) Try.underlying3 (by kernel_rfl) (by kernel_rfl) (by kernel_rfl) n cs y hl h hw) g_ts (weights_each hsz (j := 1) rfl rfl)
  injection e_ with e_0 e_1 e_2
  subst e_0 e_1 e_2
  rw [show Try.prog.bytesOf 27 = 24 by kernel_rfl] at bts
  clear g_ts
  refine (lawServes_calls es ts a_es a_ts c_es c_ts W res qes rts qts bes bts).mono fun e W' ⟨he, bel⟩ => ?_
  subst he
  exact ⟨_, rfl, _, _, _, [], _, [], hW', trodAll_mk1 (shut_bool Try.underlying4 _), (trodAll_cons_mk (Below.trod laidOut (by kernel_rfl) (of_decide_eq_true (by kernel_rfl)) k0 bel lt0) (trodAll_cons_mk (Below.trod laidOut (by kernel_rfl) (of_decide_eq_true (by kernel_rfl)) k1 bel lt1) trodAll_mk0)), rfl, bel.frame _, fun h => by cases h⟩
theorem over : Rows.queueServesRow.holds Try.pinned (OpenSpec.ofChange Rows.queueServesSpec) :=
  OpenClaim.holds_of_wide 4 Try.f4 rfl rfl rfl rfl rfl rfl rfl ⟨rfl, rfl, rfl, rfl, rfl⟩ rfl rfl rfl rfl rfl (by kernel_rfl) Try.func4 (by kernel_rfl)
    (of_decide_eq_true (by kernel_rfl)) (by unfold Func.isWrapper; first | (rw [if_pos (by decide +kernel)]; kernel_rfl) | (rw [if_neg (by decide +kernel)]; exact ⟨rfl, rfl⟩))
    (fun os started H enc _ => lifted os started H enc)
theorem proved : Rows.QueueServesSaid := over
#print axioms proved
end Go.Proofs.Ytmcknfpohnobdaa.queueServes
namespace Go.Proofs.Ytmcknfpohnobdaa
/-- The row, under a short name, for the claim. -/
theorem queueServes_holds : Rows.QueueServesSaid := queueServes.proved
end Go.Proofs.Ytmcknfpohnobdaa
