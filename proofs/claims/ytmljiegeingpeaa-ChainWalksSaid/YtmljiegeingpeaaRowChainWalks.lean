/- The law ChainWalks of custodylaw10: its row, for every input, out of its walk. -/
import Derived.Test.YtmljiegeingpeaaRows
import Derived.Test.YtmljiegeingpeaaWalks10
import Derived.Test.YtmljiegeingpeaaOpenA
import Derived.WalkKit
import Derived.ProofKit
import Derived.OpenShut
import Derived.ShutString
import Derived.ChangeOld
import Derived.Below
import Derived.SizedLaws
import Derived.ChangeSame
import Derived.ChangeVars
import Derived.JoinedOf
import Derived.RowKit
import Derived.RowKitTokens
import Derived.LaidLaws
import Derived.LaidHandle
import Derived.Stop.Joined
namespace Go.Proofs.Ytmljiegeingpeaa.chainWalks
set_option linter.unusedSimpArgs false
open Go.ChangeShapes Go.WideShapes Go.RowKit Go.Joins Go.Deep
open Go.ChangeMaps (open_string shut_string)
set_option linter.unusedVariables false
theorem own : ownKnob Try.prog.godebug = none := by kernel_rfl
theorem laidOut : laidOutB Try.prog = true := by kernel_rfl
set_option maxRecDepth 100000 in
set_option maxHeartbeats 4000000 in
theorem lifted (os : Os) (started : os.Started) (H : Type) (enc : TypeId × Value → H) :
    ReturnsInHanded {} Try.checked os 3 .any (Rows.chainWalksSpec.pre6 enc Try.prog Try.f3 Rows.chainWalksRow.domain false) (Rows.chainWalksSpec.post enc Try.prog Try.f3 false true false false) := by
  refine returnsInHanded_of_change_sized (C := Try.checked) own started (by kernel_rfl) Try.func3
    (ChangeSpec.witness6 (enc := enc) (C := Try.checked) false ⟨#[], #[.slice none 0 0, .slice none 0 0, .int .i64 0], []⟩ 8 (by kernel_rfl) (by kernel_rfl) (by kernel_rfl) (by kernel_rfl)) ?_
  intro W base args ds gs before hval0 hW hcnd hsz0 _
  have hsz : (DataW.weightsEach Try.prog (Try.f3.params.toList ++ Rows.chainWalksSpec.plain.varTypes Try.prog) (ds ++ gs)).all (· ≤ reachBytes) = true := hsz0
  have hval : ∀ (j : Nat) t v, Try.f3.params[j]? = some t → args[j]? = some v → Value.okWide Try.prog W .any base t v := hval0
  have hW' := hW
  obtain ⟨p, q, hA0, hV, rfl, hfz, hnd⟩ := hW
  have hA : DataW.TrodAll enc Try.prog W 0 (fun _ => true) true Try.f3.params.toList args.toList ds p := hA0
  rw [Try.params3] at hA hval hsz
  obtain ⟨v0, vs0, d0, ds0, p0, q0, hargs, rfl, rfl, h0, r0⟩ := trodAll_cons hA
  obtain ⟨v1, vs1, d1, ds1, p1, q1, rfl, rfl, rfl, h1, r1⟩ := trodAll_cons r0
  obtain ⟨v2, vs2, d2, ds2, p2, q2, rfl, rfl, rfl, h2, r2⟩ := trodAll_cons r1
  obtain ⟨rfl, rfl, rfl⟩ := trodAll_nil r2
  obtain rfl : args = #[v0, v1, v2] := by cases args; simp_all
  obtain ⟨rfl, rfl⟩ := trodVars_none hV
  have k0 := h0
  have lt0 : ∀ x ∈ p0, x.block < W.heap.size := by obtain ⟨m, hm⟩ := k0; exact DataW.trod_lt m _ _ _ hm
  have hv0 : Value.okWide Try.prog W .any base 22 v0 := hval 0 22 v0 rfl rfl
  obtain ⟨a_puts, l_puts, c_puts, rfl⟩ := okWide_slice Try.underlying22 hv0
  obtain ⟨n_puts, g_puts⟩ := h0
  have g_puts : DataW.trod enc Try.prog W 0 (fun _ => true) true n_puts 22 [.slice a_puts l_puts c_puts] = some _ := g_puts
  obtain ⟨puts, PA, pc, e_, hc_puts, _, rputs, wt_puts⟩ := open_rows (en := ActS.cs) ActS.len Try.underlying22 Try.underlying34 (by kernel_rfl) (by kernel_rfl) rfl (by decide) (fun n vs ys h => actS_el (by rfl) Try.underlying4 Try.underlying3 Try.underlying9 n vs ys h) g_puts
  injection e_ with e_0 e_1 e_2
  subst e_0 e_1 e_2
  have bputs := wt_puts (B := 32) (by kernel_rfl) (weights_each hsz (j := 0) rfl rfl)
  clear g_puts
  have k1 := h1
  have lt1 : ∀ x ∈ p1, x.block < W.heap.size := by obtain ⟨m, hm⟩ := k1; exact DataW.trod_lt m _ _ _ hm
  have hv1 : Value.okWide Try.prog W .any base 22 v1 := hval 1 22 v1 rfl rfl
  obtain ⟨a_acts, l_acts, c_acts, rfl⟩ := okWide_slice Try.underlying22 hv1
  obtain ⟨n_acts, g_acts⟩ := h1
  have g_acts : DataW.trod enc Try.prog W 0 (fun _ => true) true n_acts 22 [.slice a_acts l_acts c_acts] = some _ := g_acts
  obtain ⟨acts, AA, ac, e_, hc_acts, _, racts, wt_acts⟩ := open_rows (en := ActS.cs) ActS.len Try.underlying22 Try.underlying34 (by kernel_rfl) (by kernel_rfl) rfl (by decide) (fun n vs ys h => actS_el (by rfl) Try.underlying4 Try.underlying3 Try.underlying9 n vs ys h) g_acts
  injection e_ with e_0 e_1 e_2
  subst e_0 e_1 e_2
  have bacts := wt_acts (B := 32) (by kernel_rfl) (weights_each hsz (j := 1) rfl rfl)
  clear g_acts
  have k2 := h2
  have lt2 : ∀ x ∈ p2, x.block < W.heap.size := by obtain ⟨m, hm⟩ := k2; exact DataW.trod_lt m _ _ _ hm
  have hv2 : Value.okWide Try.prog W .any base 3 v2 := hval 2 3 v2 rfl rfl
  obtain ⟨stop, rfl, _, _, _⟩ := open_int Try.underlying3 hv2 h2
  refine (lawWalks_calls puts acts stop a_puts a_acts c_puts c_acts W rputs racts (by have := bputs; have := bacts; omega)).mono fun e W' ⟨he, bel⟩ => ?_
  subst he
  exact ⟨_, rfl, _, _, _, [], _, [], hW', trodAll_mk1 (shut_bool Try.underlying4 _), (trodAll_cons_mk (Below.trod laidOut (by kernel_rfl) (of_decide_eq_true (by kernel_rfl)) k0 bel lt0) (trodAll_cons_mk (Below.trod laidOut (by kernel_rfl) (of_decide_eq_true (by kernel_rfl)) k1 bel lt1) (trodAll_cons_mk (Below.trod laidOut (by kernel_rfl) (of_decide_eq_true (by kernel_rfl)) k2 bel lt2) trodAll_mk0))), rfl, bel.frame _, fun h => by cases h⟩
theorem over : Rows.chainWalksRow.holds Try.pinned (OpenSpec.ofChange Rows.chainWalksSpec) :=
  OpenClaim.holds_of_wide 3 Try.f3 rfl rfl rfl rfl rfl rfl rfl ⟨rfl, rfl, rfl, rfl, rfl⟩ rfl rfl rfl rfl rfl (by kernel_rfl) Try.func3 (by kernel_rfl)
    (of_decide_eq_true (by kernel_rfl)) (by unfold Func.isWrapper; first | (rw [if_pos (by decide +kernel)]; kernel_rfl) | (rw [if_neg (by decide +kernel)]; exact ⟨rfl, rfl⟩))
    (fun os started H enc _ => lifted os started H enc)
theorem proved : Rows.ChainWalksSaid := over
#print axioms proved
end Go.Proofs.Ytmljiegeingpeaa.chainWalks
namespace Go.Proofs.Ytmljiegeingpeaa
/-- The row, under a short name, for the claim. -/
theorem chainWalks_holds : Rows.ChainWalksSaid := chainWalks.proved
end Go.Proofs.Ytmljiegeingpeaa
