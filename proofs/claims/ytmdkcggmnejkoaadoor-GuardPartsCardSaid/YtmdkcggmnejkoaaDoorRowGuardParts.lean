/- The law GuardParts of custodylaw16: its row, for every input, out of its walk; and its tied card. -/
import Derived.Test.YtmdkcggmnejkoaaDoorRows
import Derived.Test.YtmdkcggmnejkoaaDoorPartsLaw2
import Derived.Test.YtmdkcggmnejkoaaDoorOpen
import Derived.WalkKit
import Derived.ProofKit
import Derived.OpenShut
import Derived.ShutString
import Derived.ChangeOld
import Derived.Below
import Derived.SizedLaws
import Derived.ChangeSame
import Derived.ChangeVars
import Derived.JoinedOf
import Derived.RowKit
import Derived.RowKitTokens
import Derived.LaidLaws
import Derived.LaidHandle
import Derived.Stop.Joined
import Derived.Test.YtmdkcggmnejkoaaDoorTie
import Derived.Test.YtmdkcggmnejkoaaDoorCards
import Derived.SevenTiedAt
namespace Go.Proofs.YtmdkcggmnejkoaaDoor.guardParts
open Go.ChangeShapes Go.WideShapes Go.RowKit Go.Joins Go.Deep
open Go.ChangeMaps (open_string shut_string)
set_option linter.unusedVariables false
theorem own : ownKnob Tryd.prog.godebug = none := by kernel_rfl
theorem laidOut : laidOutB Tryd.prog = true := by kernel_rfl
theorem et : Tryd.prog.globalNamed "errors.errorType" = some 0 := by kernel_rfl
theorem rt : (Tryd.prog.cutTypes.find? (·.1 == "internal/reflectlite.rtype")).map (·.2) = some 118 := by kernel_rfl
theorem oneRow : ((List.range 165).filter fun t => Tryd.prog.rowNamed t [101, 114, 114, 111, 114]) = [26] := by kernel_rfl
theorem size : Tryd.prog.types.size = 165 := by kernel_rfl
def laid1 {H : Type} : List (String × DataW H) := [("errors.errorType", Rows.laid_errors_errorType)]
theorem handle_of_laid {W : World} (h : laidMetH Tryd.prog laid1 W) : HG W := by
  have h' : laidMet Tryd.prog [] W ∧ handlesMet Tryd.prog laid1 W := h
  obtain ⟨name, u, ty, e1, e2, e3, e4, e5⟩ := h'.2 _ (List.mem_singleton.2 rfl)
  have en : name = [101, 114, 114, 111, 114] := (Option.some.inj e1).symm
  subst en
  obtain rfl := Option.some.inj (rt.symm.trans e2)
  have hm : ty ∈ (List.range 165).filter fun t => Tryd.prog.rowNamed t [101, 114, 114, 111, 114] := List.mem_filter.2 ⟨List.mem_range.2 (by rw [← size]; exact e3), e4⟩
  rw [oneRow] at hm
  obtain rfl := List.mem_singleton.1 hm
  have hh : typeHandle Tryd.prog 26 = .pointer (some ⟨1, 26, none⟩) := by kernel_rfl
  rw [hh] at e5
  unfold HG
  simpa using World.var?_cell et e5 0
noncomputable def laidWorld (os : Os) : World :=
  let w0 := World.holding Tryd.prog os ⟨#[], #[], []⟩
  { w0 with heap := w0.heap.modify 0 fun
      | .cells _ t frozen => .cells #[.iface 118 (.agg #[.pointer (some ⟨1, 26, none⟩)])] t frozen
      | o => o }
theorem laidWorld_met (os : Os) (args : Array Value) : laidMetH Tryd.prog laid1 ((laidWorld os).forCall (fun _ _ => 0) ⟨#[], args, []⟩).memory :=
  laidMetH_of_parts (laidMet_nil _ _) (by kernel_rfl)
set_option maxRecDepth 100000 in
set_option maxHeartbeats 4000000 in
theorem lifted (os : Os) (started : os.Started) (H : Type) (enc : TypeId × Value → H) :
    ReturnsInHanded {} Tryd.checked os 8 .any (fun w args => (Rows.guardPartsSpec.pre enc Tryd.prog Tryd.f8 [] false w args ∧ laidMetH Tryd.prog laid1 w) ∧ sizedMet enc Tryd.prog Tryd.f8 (OpenSpec.ofChange Rows.guardPartsSpec) false w args)
      (Rows.guardPartsSpec.post enc Tryd.prog Tryd.f8 false true false false) := by
  refine returnsInHanded_of_change_and (C := Tryd.checked) (X := fun w _ => laidMetH Tryd.prog laid1 w) (fun _ _ _ hh h => h.of_heap hh) own started (by kernel_rfl) Tryd.func8
    (ChangeSpec.witness_at (enc := enc) (C := Tryd.checked) (os := os) (X := fun w _ => laidMetH Tryd.prog laid1 w) false (laidWorld os) #[.agg #[.int .i64 0, .int .i64 0, .int .i64 0, .int .i64 0, .int .i64 0], .int .i64 0, .slice none 0 0, .slice none 0 0] 8 rfl (by kernel_rfl) (by kernel_rfl) (by kernel_rfl) (by kernel_rfl) (by kernel_rfl) (laidWorld_met os _)) ?_
  intro W base args ds gs before hval0 hW hcnd hsz0 hL _
  have hsz : (DataW.weightsEach Tryd.prog (Tryd.f8.params.toList ++ Rows.guardPartsSpec.plain.varTypes Tryd.prog) (ds ++ gs)).all (· ≤ reachBytes) = true := hsz0
  have hval : ∀ (j : Nat) t v, Tryd.f8.params[j]? = some t → args[j]? = some v → Value.okWide Tryd.prog W .any base t v := hval0
  have hW' := hW
  obtain ⟨p, q, hA0, hV, rfl, hfz, hnd⟩ := hW
  have hA : DataW.TrodAll enc Tryd.prog W 0 (fun _ => true) true Tryd.f8.params.toList args.toList ds p := hA0
  rw [Tryd.params8] at hA hval hsz
  obtain ⟨v0, vs0, d0, ds0, p0, q0, hargs, rfl, rfl, h0, r0⟩ := trodAll_cons hA
  obtain ⟨v1, vs1, d1, ds1, p1, q1, rfl, rfl, rfl, h1, r1⟩ := trodAll_cons r0
  obtain ⟨v2, vs2, d2, ds2, p2, q2, rfl, rfl, rfl, h2, r2⟩ := trodAll_cons r1
  obtain ⟨v3, vs3, d3, ds3, p3, q3, rfl, rfl, rfl, h3, r3⟩ := trodAll_cons r2
  obtain ⟨rfl, rfl, rfl⟩ := trodAll_nil r3
  obtain rfl : args = #[v0, v1, v2, v3] := by cases args; simp_all
  obtain ⟨rfl, rfl⟩ := trodVars_none hV
  have hG : HG W := handle_of_laid hL
  have k0 := h0
  have lt0 : ∀ x ∈ p0, x.block < W.heap.size := by obtain ⟨m, hm⟩ := k0; exact DataW.trod_lt m _ _ _ hm
  have hv0 : Value.okWide Tryd.prog W .any base 23 v0 := hval 0 23 v0 rfl rfl
  obtain ⟨w0, w1, w2, w3, w4, y0, y1, y2, y3, y4, m0, rfl, rfl, rfl, g0, g1, g2, g3, g4⟩ := open_agg5 Tryd.underlying23 (by kernel_rfl) (by kernel_rfl) hv0 h0
  obtain ⟨c0, e0, _, _⟩ := DataW.trod_int Tryd.underlying3 g0
  obtain ⟨c1, e1, _, _⟩ := DataW.trod_int Tryd.underlying3 g1
  obtain ⟨c2, e2, _, _⟩ := DataW.trod_int Tryd.underlying3 g2
  obtain ⟨c3, e3, _, _⟩ := DataW.trod_int Tryd.underlying3 g3
  obtain ⟨c4, e4, _, _⟩ := DataW.trod_int Tryd.underlying3 g4
  simp only [List.cons.injEq, and_true] at e0 e1 e2 e3 e4
  subst e0 e1 e2 e3 e4
  clear g0 g1 g2 g3 g4
  have k1 := h1
  have lt1 : ∀ x ∈ p1, x.block < W.heap.size := by obtain ⟨m, hm⟩ := k1; exact DataW.trod_lt m _ _ _ hm
  have hv1 : Value.okWide Tryd.prog W .any base 3 v1 := hval 1 3 v1 rfl rfl
  obtain ⟨id, rfl, _, _, _⟩ := open_int Tryd.underlying3 hv1 h1
  have k2 := h2
  have lt2 : ∀ x ∈ p2, x.block < W.heap.size := by obtain ⟨m, hm⟩ := k2; exact DataW.trod_lt m _ _ _ hm
  have hv2 : Value.okWide Tryd.prog W .any base 30 v2 := hval 2 30 v2 rfl rfl
  obtain ⟨a_legs, l_legs, c_legs, rfl⟩ := okWide_slice Tryd.underlying30 hv2
  obtain ⟨n_legs, g_legs⟩ := h2
  have g_legs : DataW.trod enc Tryd.prog W 0 (fun _ => true) true n_legs 30 [.slice a_legs l_legs c_legs] = some _ := g_legs
  obtain ⟨legs, LA, lc, e_, hc_legs, _, rlegs, wt_legs⟩ := open_rows (en := Leg.cs) Leg.len Tryd.underlying30 Tryd.underlying45 (by kernel_rfl) (by kernel_rfl) rfl (by decide) (fun n vs ys h => leg_el (by rfl) Tryd.underlying3 Tryd.underlying2 n vs ys h) g_legs
  injection e_ with e_0 e_1 e_2
  subst e_0 e_1 e_2
  have blegs := wt_legs (B := 40) (by kernel_rfl) (weights_each hsz (j := 2) rfl rfl)
  clear g_legs
  have k3 := h3
  have lt3 : ∀ x ∈ p3, x.block < W.heap.size := by obtain ⟨m, hm⟩ := k3; exact DataW.trod_lt m _ _ _ hm
  have hv3 : Value.okWide Tryd.prog W .any base 31 v3 := hval 3 31 v3 rfl rfl
  obtain ⟨a_pairs, l_pairs, c_pairs, rfl⟩ := okWide_slice Tryd.underlying31 hv3
  obtain ⟨n_pairs, g_pairs⟩ := h3
  have g_pairs : DataW.trod enc Tryd.prog W 0 (fun _ => true) true n_pairs 31 [.slice a_pairs l_pairs c_pairs] = some _ := g_pairs
  obtain ⟨pairs, PA, pc, e_, hc_pairs, _, rpairs, wt_pairs⟩ := open_rows (en := Key.cs) Key.len Tryd.underlying31 Tryd.underlying47 (by kernel_rfl) (by kernel_rfl) rfl (by decide) (fun n vs ys h => key_el (by rfl) Tryd.underlying3 n vs ys h) g_pairs
  injection e_ with e_0 e_1 e_2
  subst e_0 e_1 e_2
  have bpairs := wt_pairs (B := 16) (by kernel_rfl) (weights_each hsz (j := 3) rfl rfl)
  clear g_pairs
  refine (lawParts_calls c0 c1 c2 c3 c4 id legs pairs a_legs a_pairs c_legs c_pairs W rlegs rpairs blegs bpairs hc_legs hc_pairs hG).mono fun e W' ⟨he, bel⟩ => ?_
  subst he
  exact ⟨_, rfl, _, _, _, [], _, [], hW', trodAll_mk1 (shut_bool Tryd.underlying4 _), (trodAll_cons_mk (Below.trod laidOut (by kernel_rfl) (of_decide_eq_true (by kernel_rfl)) k0 bel lt0) (trodAll_cons_mk (Below.trod laidOut (by kernel_rfl) (of_decide_eq_true (by kernel_rfl)) k1 bel lt1) (trodAll_cons_mk (Below.trod laidOut (by kernel_rfl) (of_decide_eq_true (by kernel_rfl)) k2 bel lt2) (trodAll_cons_mk (Below.trod laidOut (by kernel_rfl) (of_decide_eq_true (by kernel_rfl)) k3 bel lt3) trodAll_mk0)))), rfl, bel.frame _, fun h => by cases h⟩
theorem over : Rows.guardPartsRow.holds Tryd.pinned (OpenSpec.ofChange Rows.guardPartsSpec) :=
  OpenClaim.holds_of_wide 8 Tryd.f8 rfl rfl rfl rfl rfl rfl rfl ⟨rfl, rfl, rfl, rfl, rfl⟩ rfl rfl rfl rfl rfl (by kernel_rfl) Tryd.func8 (by kernel_rfl)
    (of_decide_eq_true (by kernel_rfl)) (by unfold Func.isWrapper; first | (rw [if_pos (by decide +kernel)]; kernel_rfl) | (rw [if_neg (by decide +kernel)]; exact ⟨rfl, rfl⟩))
    (fun os started H enc _ => lifted os started H enc)
theorem card : Claim7.holds Tryd.pinned (.plain (OpenSpec.ofChange Rows.guardPartsSpec)) Rows.guardPartsCard :=
  Claim7.holds_tied_plain_at .later [] [.handle] true Rows.guardPartsCard.stood.harness true
    over (fun _ h => by cases h) (by kernel_rfl) (fun _ h => by cases h) guardParts_row_tie rfl ⟨rfl, rfl⟩ (by kernel_rfl) rfl
    (fun f fn hf hfn => by
      obtain rfl : f = 8 := Option.some.inj ((show Tryd.prog.funcNamed "custody/custodylaw16.GuardParts" = some 8 by kernel_rfl).symm.trans hf) |>.symm
      obtain rfl : fn = Tryd.f8 := (Option.some.inj (Tryd.func8.symm.trans hfn)).symm
      exact ⟨by kernel_rfl, fun j t ht => by
        rw [Tryd.params8] at ht
        rcases j with _ | j
        · obtain rfl : t = 23 := by simpa using ht.symm
          exact (show Tryd.prog.wantsStandIn 23 = false by kernel_rfl)
        rcases j with _ | j
        · obtain rfl : t = 3 := by simpa using ht.symm
          exact (show Tryd.prog.wantsStandIn 3 = false by kernel_rfl)
        rcases j with _ | j
        · obtain rfl : t = 30 := by simpa using ht.symm
          exact (show Tryd.prog.wantsStandIn 30 = false by kernel_rfl)
        rcases j with _ | j
        · obtain rfl : t = 31 := by simpa using ht.symm
          exact (show Tryd.prog.wantsStandIn 31 = false by kernel_rfl)
        simp at ht⟩)
    (by kernel_rfl)
#print axioms card
end Go.Proofs.YtmdkcggmnejkoaaDoor.guardParts
namespace Go.Proofs.YtmdkcggmnejkoaaDoor
/-- The tied card, under a short name, for the claim. -/
theorem guardParts_holds : Rows.GuardPartsCardSaid := guardParts.card
end Go.Proofs.YtmdkcggmnejkoaaDoor
