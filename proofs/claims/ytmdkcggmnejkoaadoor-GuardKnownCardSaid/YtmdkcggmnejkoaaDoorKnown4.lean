/- custodylaw16.knownLegs (of the closed law GuardKnown) by a contract (printed by gen_known4.py). -/
import Derived.Test.YtmdkcggmnejkoaaDoorKnown
import Derived.Test.YtmdkcggmnejkoaaDoorCheckLaw
import Derived.Test.YtmdkcggmnejkoaaDoorOwn
import Derived.Deep.DeepCutAuto
import Derived.Deep.CutBlock
namespace Go.Proofs.YtmdkcggmnejkoaaDoor
set_option linter.unusedSimpArgs false
set_option linter.unusedVariables false
open Go.RowKit

/-- What knownLegs holds throughout. -/
structure Held (w wr : World) (gc : Nat) : Prop where
  c : Blk wr gc 23 #[.int .i64 3, .int .i64 2, .int .i64 0, .int .i64 0, .int .i64 0]
  g : Blk wr (gc + 1) 45 #[.int .i64 0, .int .i64 1, .int .i64 1, .int .i64 1, .int .i64 0]
  e : Blk wr (gc + 1 + 1) 3 (intsC [-9223372036854775808, -1, 0, 1, 2, 3, 65536, 65537, 9223372036854775807]).toArray
  d : Blk wr (gc + 1 + 1 + 1) 3 (intsC [-1, 0, 1, 1099511627776, 1099511627777]).toArray
  b : Below w.heap.size w wr
section
variable {w wr w2 : World} {gc : Nat}
theorem Held.alloc (h : Held w wr gc) (o : Obj) : Held w (wr.alloc o) gc := ⟨h.c.alloc _, h.g.alloc _, h.e.alloc _, h.d.alloc _, h.b.alloc h.b.size _⟩
theorem Held.below (h : Held w wr gc) (hb : Below wr.heap.size wr w2) : Held w w2 gc := ⟨h.c.below hb h.c.lt, h.g.below hb h.g.lt, h.e.below hb h.e.lt, h.d.below hb h.d.lt, h.b.trans (hb.mono h.b.size)⟩
theorem Held.grown (h : Held w wr gc) (hgc : w.heap.size = gc) {row : Option Nat} (hg : wr.grownBy w2 row) (hr : ∀ b, row = some b → gc + 4 ≤ b) : Held w w2 gc :=
  ⟨h.c.grown hg (fun he => by have := hr _ he.symm; omega), h.g.grown hg (fun he => by have := hr _ he.symm; omega), h.e.grown hg (fun he => by have := hr _ he.symm; omega), h.d.grown hg (fun he => by have := hr _ he.symm; omega),
    h.b.grown hg h.b.size (fun b hb => by have := hr _ hb; omega)⟩
theorem Held.lt (h : Held w wr gc) : gc + 4 ≤ wr.heap.size := by have := h.d.lt; omega
theorem held_new (w : World) : Held w ((((w.alloc (.cells #[.int .i64 3, .int .i64 2, .int .i64 0, .int .i64 0, .int .i64 0] 23)).alloc (.cells #[.int .i64 0, .int .i64 1, .int .i64 1, .int .i64 1, .int .i64 0] 45)).alloc (.cells (intsC [-9223372036854775808, -1, 0, 1, 2, 3, 65536, 65537, 9223372036854775807]).toArray 3)).alloc (.cells (intsC [-1, 0, 1, 1099511627776, 1099511627777]).toArray 3)) w.heap.size := by
  have h1 := Blk.new w 23 #[.int .i64 3, .int .i64 2, .int .i64 0, .int .i64 0, .int .i64 0]
  have h2 := Blk.new (w.alloc (.cells #[.int .i64 3, .int .i64 2, .int .i64 0, .int .i64 0, .int .i64 0] 23)) 45 #[.int .i64 0, .int .i64 1, .int .i64 1, .int .i64 1, .int .i64 0]
  have h3 := Blk.new ((w.alloc (.cells #[.int .i64 3, .int .i64 2, .int .i64 0, .int .i64 0, .int .i64 0] 23)).alloc (.cells #[.int .i64 0, .int .i64 1, .int .i64 1, .int .i64 1, .int .i64 0] 45)) 3 (intsC [-9223372036854775808, -1, 0, 1, 2, 3, 65536, 65537, 9223372036854775807]).toArray
  have h4 := Blk.new (((w.alloc (.cells #[.int .i64 3, .int .i64 2, .int .i64 0, .int .i64 0, .int .i64 0] 23)).alloc (.cells #[.int .i64 0, .int .i64 1, .int .i64 1, .int .i64 1, .int .i64 0] 45)).alloc (.cells (intsC [-9223372036854775808, -1, 0, 1, 2, 3, 65536, 65537, 9223372036854775807]).toArray 3)) 3 (intsC [-1, 0, 1, 1099511627776, 1099511627777]).toArray
  have s1 : ∀ (v : World) (o : Obj), (v.alloc o).heap.size = v.heap.size + 1 := fun v o => by simp
  simp only [s1] at h2 h3 h4
  exact ⟨((h1.alloc _).alloc _).alloc _, (h2.alloc _).alloc _, h3.alloc _, h4, ((((Below.refl _ _).alloc (Nat.le_refl _) _).alloc (by simp) _).alloc (by simp; omega) _).alloc (by simp; omega) _⟩
end

set_option maxRecDepth 100000 in
set_option maxHeartbeats 8000000 in
theorem knownLegs_calls (w : World) (hG : HG w) : Calls Tryd.prog 36 #[] w fun e w' => e = .returned (.bool true) ∧ Below w.heap.size w w' := by
  obtain ⟨gc, hgc⟩ : ∃ g, w.heap.size = g := ⟨_, rfl⟩
  obtain ⟨i0, hi0, hz0, hz1, hz2⟩ := info_parts infoLegs
  go_enter Tryd.func36, Tryd.ntmps36
  go_wp2_with (fail)
  go_loopw [5] (fun j wr => ∃ i : Nat, i ≤ 9 ∧ j = .int .i64 i ∧ Held w wr gc) (fun j _ => 9 - (intOf j).toNat)
  case atStart => exact ⟨0, by omega, rfl, hgc ▸ held_new w⟩
  case round =>
    obtain ⟨i, hi, rfl, hH⟩ := hrel
    by_cases hlt : i < 9
    · have hil : (i : Int) < 9 := by omega
      obtain ⟨x, cx⟩ := ints_cell hH.e (i := i) hlt
      obtain ⟨go, hgo⟩ : ∃ g, wr.heap.size = g := ⟨_, rfl⟩
      have sO := Lib.hid (hgo ▸ hH.lt : gc + 4 ≤ go)
      have H := Lib.hid hH
      clear hH
      go_wp2_with (fail)
      go_loopw [8] (fun j wr => ∃ k : Nat, k ≤ 8 ∧ j = .int .i64 k ∧ Blk wr go 45 (intsC [x, 1, 9, 0, 0, 0, x, 9, 0, -1, 0, 1, x, 0, -1, 0, 1, 1, x, -1, 0, 1, 1, 1, x, x, x, 9, 0, 0, 3, 3, 0, 0, 0, 0, 3, 1, 1, 0]).toArray ∧ Held w wr gc) (fun j _ => 8 - (intOf j).toNat)
      case atStart => exact ⟨0, Nat.zero_le _, rfl, hgo ▸ Blk.new _ _ _, H.out.alloc _⟩
      case round =>
        clear H cx hgo
        obtain ⟨k, hk, rfl, hO, hH⟩ := hrel
        by_cases hlt2 : k < 8
        · have hkl : (k : Int) < 8 := by omega
          have HO := Lib.hid hO
          have H := Lib.hid hH
          clear hO hH
          go_wp2_with (fail)
          go_loopw [9, 10] (fun v j wr => ∃ (n : Nat) (L : List Leg), n ≤ 6 ∧ j = .int .i64 n ∧ L.length = n ∧ wr.ownsRow (go + 1) 45 5 v L.length (legsC L) ∧ Blk wr go 45 (intsC [x, 1, 9, 0, 0, 0, x, 9, 0, -1, 0, 1, x, 0, -1, 0, 1, 1, x, -1, 0, 1, 1, 1, x, x, x, 9, 0, 0, 3, 3, 0, 0, 0, 0, 3, 1, 1, 0]).toArray ∧ Held w wr gc) (fun _ j _ => 6 - (intOf j).toNat)
          case atStart => exact ⟨0, [], by omega, rfl, rfl, World.ownsRow_nil _ _ _ _, HO.out, H.out⟩
          case round =>
            clear HO H
            obtain ⟨n, L, hn, rfl, hL, hown, hO, hH⟩ := hrel
            by_cases hlt3 : n < 6
            · have hnl : (n : Int) ≤ 5 := by omega
              have hn0 : (0 : Int) ≤ (n : Int) := by omega
              obtain ⟨A, cc, rfl⟩ := own_slice_n hown
              have HL := Lib.hid hL
              obtain ⟨b1, hb1⟩ : ∃ g, wr.heap.size = g := ⟨_, rfl⟩
              have HB1 := Lib.hid hb1
              have SB1 := Lib.hid (hb1 ▸ hO.lt : go < b1)
              have hne := Lib.hid (hb1 ▸ fun k hk => (hown.lt k hk).2 : ∀ k, (Value.slice A L.length cc).ownBlock = some k → k < b1)
              have HN := Lib.hid hown
              have HO := Lib.hid hO
              have H := Lib.hid hH
              clear hL hb1 hown hO hH
              go_wp2_with (fail)
              refine (copyLegs_calls L A cc wr.heap.size wr (Reads.of_own HN.out) (Nat.le_refl _) (by have := HL.out; omega)).mono ?_
              rintro e w1 ⟨vb, rfl, hbad, hbe1⟩
              rw [HB1.out] at hbad
              obtain ⟨VA, vc, rfl⟩ := own_slice_n hbad
              have HM := Lib.hid hbad
              replace HN := Lib.hid (own_below HN.out hbe1)
              replace HO := Lib.hid (HO.out.below hbe1 HO.out.lt)
              replace H := Lib.hid (H.out.below hbe1)
              have SW := Lib.hid (HB1.out ▸ hbe1.size : b1 ≤ w1.heap.size)
              clear hbe1 hbad HB1
              obtain ⟨a0, e0⟩ := ints_cell HO.out (i := k * 5) (by show k * 5 < 40; omega)
              obtain ⟨a1, e1⟩ := ints_cell HO.out (i := k * 5 + 1) (by show k * 5 + 1 < 40; omega)
              obtain ⟨a2, e2⟩ := ints_cell HO.out (i := k * 5 + 2) (by show k * 5 + 2 < 40; omega)
              obtain ⟨a3, e3⟩ := ints_cell HO.out (i := k * 5 + 3) (by show k * 5 + 3 < 40; omega)
              obtain ⟨a4, e4⟩ := ints_cell HO.out (i := k * 5 + 4) (by show k * 5 + 4 < 40; omega)
              go_wp2_with (first | (at_builtin; refine wpList_append_own _ rfl (.tmp 55) (.tmp 60) 30 rfl b1 45 i0 _ 5 40 Tryd.underlying30 hi0 hz0 hz1 hz2 rfl (by decide) _ L.length (legsC L) rfl (HM.out.alloc _) ⟨w1.heap.size, 0, none⟩ 1 1 [.int .i64 a0, .int .i64 a1, .int .i64 a2, .int .i64 a3, .int .i64 a4] rfl rfl ?_ ?_ ?_ ?_ ?_ ?_; exact new_cells w1 45 [.int .i64 a0, .int .i64 a1, .int .i64 a2, .int .i64 a3, .int .i64 a4]; (simp [Value.oneCell']); (have := HL.out; unfold maxLen; omega); (have := HL.out; omega); (have := SW.out; simp; omega); intro v1 w2 hown2 hg2 _))
              obtain ⟨BA, bc, rfl⟩ := own_slice_n hown2
              obtain ⟨LM, hLM⟩ : ∃ l, L ++ [(⟨a0, a1, a2, a3, a4⟩ : Leg)] = l := ⟨_, rfl⟩
              have HLM := Lib.hid (by rw [← hLM]; simp : LM.length = L.length + 1)
              replace hown2 : w2.ownsRow b1 45 5 (.slice BA LM.length bc) LM.length (legsC LM) := by
                have e1 : LM.length = L.length + 1 := HLM.out
                have e2 : legsC LM = legsC L ++ [.int .i64 a0, .int .i64 a1, .int .i64 a2, .int .i64 a3, .int .i64 a4] := by rw [← hLM]; simp [legsC, Leg.cs]
                rw [e1, e2]
                exact hown2
              rw [← HLM.out]
              have hr2 : ∀ b, (Value.slice VA L.length vc).ownBlock = some b → b1 ≤ b := fun b hb => own_base HM.out hb
              have hH2 := (H.out.alloc (.cells #[.int .i64 a0, .int .i64 a1, .int .i64 a2, .int .i64 a3, .int .i64 a4] 45)).grown hgc hg2 (fun b hb => by have := hr2 b hb; have := sO.out; have := SB1.out; omega)
              have hO2 := (HO.out.alloc (.cells #[.int .i64 a0, .int .i64 a1, .int .i64 a2, .int .i64 a3, .int .i64 a4] 45)).grown hg2 (fun he => by have := hr2 _ he.symm; have := SB1.out; omega)
              have hN2 := (HN.out.alloc (.cells #[.int .i64 a0, .int .i64 a1, .int .i64 a2, .int .i64 a3, .int .i64 a4] 45)).kept hg2 (by
                cases hA : (Value.slice A L.length cc).ownBlock with
                | none => exact .inl rfl
                | some k => exact .inr fun he => by have h1 := hne.out k hA; have h2 := hr2 _ he.symm; omega)
              have hS2 : b1 ≤ w2.heap.size := by have h1 := hg2.size; have h2 := SW.out; simp at h1; omega
              clear H HO HN HM hg2 hr2 e0 e1 e2 e3 e4 hLM SW
              go_loopw [12] (fun j wr => ∃ m : Nat, m ≤ 5 ∧ j = .int .i64 m ∧ b1 ≤ wr.heap.size ∧ wr.ownsRow b1 45 5 (.slice BA LM.length bc) LM.length (legsC LM) ∧ wr.ownsRow (go + 1) 45 5 (.slice A L.length cc) L.length (legsC L) ∧ Blk wr go 45 (intsC [x, 1, 9, 0, 0, 0, x, 9, 0, -1, 0, 1, x, 0, -1, 0, 1, 1, x, -1, 0, 1, 1, 1, x, x, x, 9, 0, 0, 3, 3, 0, 0, 0, 0, 3, 1, 1, 0]).toArray ∧ Held w wr gc) (fun j _ => 5 - (intOf j).toNat)
              case atStart => exact ⟨0, by omega, rfl, hS2, hown2, hN2, hO2, hH2⟩
              case round =>
                clear hown2 hN2 hO2 hH2 hS2
                obtain ⟨m, hm, rfl, hS, hM, hN, hO, hH⟩ := hrel
                have HM := Lib.hid hM
                have HN := Lib.hid hN
                have HO := Lib.hid hO
                have H := Lib.hid hH
                clear hM hN hO hH
                by_cases hlt4 : m < 5
                · have hml : (m : Int) < 5 := by omega
                  have HS := Lib.hid hS
                  clear hS
                  obtain ⟨qi, cid⟩ := ints_cell H.out.d (i := m) hlt4
                  have k0 : wr.cell? ⟨gc, 0, none⟩ = some (.int .i64 3) := H.out.c.cell 0
                  have k1 : wr.cell? ⟨gc, 1, none⟩ = some (.int .i64 2) := H.out.c.cell 1
                  have k2 : wr.cell? ⟨gc, 2, none⟩ = some (.int .i64 0) := H.out.c.cell 2
                  have k3 : wr.cell? ⟨gc, 3, none⟩ = some (.int .i64 0) := H.out.c.cell 3
                  have k4 : wr.cell? ⟨gc, 4, none⟩ = some (.int .i64 0) := H.out.c.cell 4
                  go_upto_region 22 with fail
                  refine wp_region_class (InB wr) (by kernel_rfl) (by kernel_rfl) (InB.start _) ?_
                  refine BigFrame.wpQuiet_want (by rfl) (fun K hK => ?_)
                  refine quiet_value (.agg #[.int .i64 3, .int .i64 2, .int .i64 0, .int .i64 0, .int .i64 0]) (fun W hW => ?_) (hK _ ?_)
                  · clear hK
                    have q0 := hW.cell k0
                    have q1 := hW.cell k1
                    have q2 := hW.cell k2
                    have q3 := hW.cell k3
                    have q4 := hW.cell k4
                    clear hW
                    go_simp
                  clear hK K
                  simp only [Act.put, List.setIfInBounds_toArray, List.set_cons_zero, List.set_cons_succ]
                  refine BigFrame.wpQuiet_want (by rfl) (fun K hK => ?_)
                  refine quiet_value (.slice (some ⟨gc + 1 + 1 + 1, 0, none⟩) 5 5) (fun W hW => ?_) (hK _ ?_)
                  · clear hK
                    clear hW
                    go_simp
                  clear hK K
                  simp only [Act.put, List.setIfInBounds_toArray, List.set_cons_zero, List.set_cons_succ]
                  refine BigFrame.wpQuiet_want (by rfl) (fun K hK => ?_)
                  refine quiet_value (.int .i64 m) (fun W hW => ?_) (hK _ ?_)
                  · clear hK
                    clear hW
                    go_simp
                  clear hK K
                  simp only [Act.put, List.setIfInBounds_toArray, List.set_cons_zero, List.set_cons_succ]
                  refine BigFrame.wpQuiet_want (by rfl) (fun K hK => ?_)
                  refine quiet_value (.pointer (some ⟨gc + 1 + 1 + 1, m, none⟩)) (fun W hW => ?_) (hK _ ?_)
                  · clear hK
                    clear hW
                    go_simp
                  clear hK K
                  simp only [Act.put, List.setIfInBounds_toArray, List.set_cons_zero, List.set_cons_succ]
                  refine BigFrame.wpQuiet_want (by rfl) (fun K hK => ?_)
                  refine quiet_value (.int .i64 qi) (fun W hW => ?_) (hK _ ?_)
                  · clear hK
                    have q0 := hW.cell cid
                    clear hW
                    go_simp
                  clear hK K
                  simp only [Act.put, List.setIfInBounds_toArray, List.set_cons_zero, List.set_cons_succ]
                  refine BigFrame.wpQuiet_want (by rfl) (fun K hK => ?_)
                  refine quiet_value (.slice A L.length cc) (fun W hW => ?_) (hK _ ?_)
                  · clear hK
                    clear hW
                    go_simp
                  clear hK K
                  simp only [Act.put, List.setIfInBounds_toArray, List.set_cons_zero, List.set_cons_succ]
                  refine BigFrame.wpQuiet_want (by rfl) (fun K hK => ?_)
                  refine quiet_value (.agg #[.int .i64 5, .int .i64 0, .int .i64 0, .int .i64 0, .int .i64 0, .int .i64 qi, .slice A L.length cc, .slice none 0 0]) (fun W hW => ?_) (hK _ ?_)
                  · clear hK
                    clear hW
                    go_simp
                  clear hK K
                  simp only [Act.put, List.setIfInBounds_toArray, List.set_cons_zero, List.set_cons_succ]
                  refine BigFrame.wpQuiet_want (by rfl) (fun K hK => ?_)
                  refine quiet_call 5 #[.agg #[.int .i64 3, .int .i64 2, .int .i64 0, .int .i64 0, .int .i64 0], .agg #[.int .i64 5, .int .i64 0, .int .i64 0, .int .i64 0, .int .i64 0, .int .i64 qi, .slice A L.length cc, .slice none 0 0]] (.bool true) (fun W => ?_) (fun W hW => ?_) (hK _ ?_)
                  · clear hK
                    go_simp
                  · refine (lawCheck_calls 3 2 0 0 0 ⟨5, 0, 0, 0, 0, qi, L, []⟩ A none cc 0 W (((Reads.of_own HN.out).below hW).more hW.size) Reads.none_ (by have := HL.out; have := HLM.out; show L.length * 40 ≤ 140737488351232; omega) (by simp) (hG.below (H.out.b.trans (hW.mono H.out.b.size)))).mono ?_
                    rintro e w' ⟨rfl, hb⟩
                    exact ⟨rfl, hW.trans hb⟩
                  clear hK K
                  simp only [Act.put, List.setIfInBounds_toArray, List.set_cons_zero, List.set_cons_succ]
                  refine BigFrame.wpQuiet_want (by rfl) (fun K hK => ?_)
                  refine quiet_value (.bool false) (fun W hW => ?_) (hK _ ?_)
                  · clear hK
                    clear hW
                    go_simp
                  clear hK K
                  simp only [Act.put, List.setIfInBounds_toArray, List.set_cons_zero, List.set_cons_succ]
                  refine BigFrame.wpQuiet_want (by rfl) (fun K hK => ?_)
                  refine quiet_value (.bool false) (fun W hW => ?_) (hK _ ?_)
                  · clear hK
                    clear hW
                    go_simp
                  clear hK K
                  simp only [Act.put, List.setIfInBounds_toArray, List.set_cons_zero, List.set_cons_succ]
                  refine BigFrame.wpQuiet_want (by rfl) (fun K hK => ?_)
                  refine quiet_value (.agg #[.int .i64 3, .int .i64 2, .int .i64 0, .int .i64 0, .int .i64 0]) (fun W hW => ?_) (hK _ ?_)
                  · clear hK
                    have q0 := hW.cell k0
                    have q1 := hW.cell k1
                    have q2 := hW.cell k2
                    have q3 := hW.cell k3
                    have q4 := hW.cell k4
                    clear hW
                    go_simp
                  clear hK K
                  simp only [Act.put, List.setIfInBounds_toArray, List.set_cons_zero, List.set_cons_succ]
                  refine BigFrame.wpQuiet_want (by rfl) (fun K hK => ?_)
                  refine quiet_value (.slice (some ⟨gc + 1 + 1 + 1, 0, none⟩) 5 5) (fun W hW => ?_) (hK _ ?_)
                  · clear hK
                    clear hW
                    go_simp
                  clear hK K
                  simp only [Act.put, List.setIfInBounds_toArray, List.set_cons_zero, List.set_cons_succ]
                  refine BigFrame.wpQuiet_want (by rfl) (fun K hK => ?_)
                  refine quiet_value (.int .i64 m) (fun W hW => ?_) (hK _ ?_)
                  · clear hK
                    clear hW
                    go_simp
                  clear hK K
                  simp only [Act.put, List.setIfInBounds_toArray, List.set_cons_zero, List.set_cons_succ]
                  refine BigFrame.wpQuiet_want (by rfl) (fun K hK => ?_)
                  refine quiet_value (.pointer (some ⟨gc + 1 + 1 + 1, m, none⟩)) (fun W hW => ?_) (hK _ ?_)
                  · clear hK
                    clear hW
                    go_simp
                  clear hK K
                  simp only [Act.put, List.setIfInBounds_toArray, List.set_cons_zero, List.set_cons_succ]
                  refine BigFrame.wpQuiet_want (by rfl) (fun K hK => ?_)
                  refine quiet_value (.int .i64 qi) (fun W hW => ?_) (hK _ ?_)
                  · clear hK
                    have q0 := hW.cell cid
                    clear hW
                    go_simp
                  clear hK K
                  simp only [Act.put, List.setIfInBounds_toArray, List.set_cons_zero, List.set_cons_succ]
                  refine BigFrame.wpQuiet_want (by rfl) (fun K hK => ?_)
                  refine quiet_value (.slice BA LM.length bc) (fun W hW => ?_) (hK _ ?_)
                  · clear hK
                    clear hW
                    go_simp
                  clear hK K
                  simp only [Act.put, List.setIfInBounds_toArray, List.set_cons_zero, List.set_cons_succ]
                  refine BigFrame.wpQuiet_want (by rfl) (fun K hK => ?_)
                  refine quiet_value (.agg #[.int .i64 5, .int .i64 0, .int .i64 0, .int .i64 0, .int .i64 0, .int .i64 qi, .slice BA LM.length bc, .slice none 0 0]) (fun W hW => ?_) (hK _ ?_)
                  · clear hK
                    clear hW
                    go_simp
                  clear hK K
                  simp only [Act.put, List.setIfInBounds_toArray, List.set_cons_zero, List.set_cons_succ]
                  refine BigFrame.wpQuiet_want (by rfl) (fun K hK => ?_)
                  refine quiet_call 5 #[.agg #[.int .i64 3, .int .i64 2, .int .i64 0, .int .i64 0, .int .i64 0], .agg #[.int .i64 5, .int .i64 0, .int .i64 0, .int .i64 0, .int .i64 0, .int .i64 qi, .slice BA LM.length bc, .slice none 0 0]] (.bool true) (fun W => ?_) (fun W hW => ?_) (hK _ ?_)
                  · clear hK
                    go_simp
                  · refine (lawCheck_calls 3 2 0 0 0 ⟨5, 0, 0, 0, 0, qi, LM, []⟩ BA none bc 0 W (((Reads.of_own HM.out).below hW).more hW.size) Reads.none_ (by have := HL.out; have := HLM.out; show LM.length * 40 ≤ 140737488351232; omega) (by simp) (hG.below (H.out.b.trans (hW.mono H.out.b.size)))).mono ?_
                    rintro e w' ⟨rfl, hb⟩
                    exact ⟨rfl, hW.trans hb⟩
                  clear hK K
                  simp only [Act.put, List.setIfInBounds_toArray, List.set_cons_zero, List.set_cons_succ]
                  refine BigFrame.wpQuiet_want (by rfl) (fun K hK => ?_)
                  refine quiet_value (.bool false) (fun W hW => ?_) (hK _ ?_)
                  · clear hK
                    clear hW
                    go_simp
                  clear hK K
                  simp only [Act.put, List.setIfInBounds_toArray, List.set_cons_zero, List.set_cons_succ]
                  refine BigFrame.wpQuiet_want (by rfl) (fun K hK => ?_)
                  refine quiet_value (.bool false) (fun W hW => ?_) (hK _ ?_)
                  · clear hK
                    clear hW
                    go_simp
                  clear hK K
                  simp only [Act.put, List.setIfInBounds_toArray, List.set_cons_zero, List.set_cons_succ]
                  refine wpQuiet_nil ?_
                  intro W1 hiW1
                  go_wp2_with (fail)
                  go_roundw
                  case rel => exact ⟨m + 1, by omega, by go_num, Nat.le_trans HS.out hiW1.size, own_below HM.out hiW1, own_below HN.out hiW1, HO.out.below hiW1 HO.out.lt, H.out.below hiW1⟩
                  case measure => simp [intOf]; omega
                · obtain rfl : m = 5 := by omega
                  have g0 : wr.cell? ⟨gc + 1, 0, none⟩ = some (.int .i64 0) := H.out.g.cell 0
                  have g1 : wr.cell? ⟨gc + 1, 1, none⟩ = some (.int .i64 1) := H.out.g.cell 1
                  have g2 : wr.cell? ⟨gc + 1, 2, none⟩ = some (.int .i64 1) := H.out.g.cell 2
                  have g3 : wr.cell? ⟨gc + 1, 3, none⟩ = some (.int .i64 1) := H.out.g.cell 3
                  have g4 : wr.cell? ⟨gc + 1, 4, none⟩ = some (.int .i64 0) := H.out.g.cell 4
                  go_wp2_with (first | (at_builtin; refine wpList_append_own _ rfl (.tmp 88) (.tmp 91) 30 rfl b1 45 i0 _ 5 40 Tryd.underlying30 hi0 hz0 hz1 hz2 rfl (by decide) _ LM.length (legsC LM) rfl (HM.out.alloc _) ⟨wr.heap.size, 0, none⟩ 2 2 [.int .i64 0, .int .i64 1, .int .i64 1, .int .i64 1, .int .i64 0, .int .i64 7, .int .i64 0, .int .i64 0, .int .i64 0, .int .i64 0] rfl rfl ?_ ?_ ?_ ?_ ?_ ?_; exact new_cells wr 45 [.int .i64 0, .int .i64 1, .int .i64 1, .int .i64 1, .int .i64 0, .int .i64 7, .int .i64 0, .int .i64 0, .int .i64 0, .int .i64 0]; (simp [Value.oneCell']); (have := HL.out; have := HLM.out; unfold maxLen; omega); (have := HL.out; have := HLM.out; omega); (simp; omega); intro v1 w3 hown3 hg3 _; have hr2 : ∀ b, (Value.slice BA LM.length bc).ownBlock = some b → b1 ≤ b := (fun b hb => own_base HM.out hb); have h3 := (H.out.alloc (.cells #[.int .i64 0, .int .i64 1, .int .i64 1, .int .i64 1, .int .i64 0, .int .i64 7, .int .i64 0, .int .i64 0, .int .i64 0, .int .i64 0] 45)).grown hgc hg3 (fun b hb => by have := hr2 b hb; have := sO.out; have := SB1.out; omega); have H3 := Lib.hid h3; obtain ⟨CA, c3, rfl⟩ := own_slice_n hown3; have k0 : w3.cell? ⟨gc, 0, none⟩ = some (.int .i64 3) := h3.c.cell 0; have k1 : w3.cell? ⟨gc, 1, none⟩ = some (.int .i64 2) := h3.c.cell 1; have k2 : w3.cell? ⟨gc, 2, none⟩ = some (.int .i64 0) := h3.c.cell 2; have k3 : w3.cell? ⟨gc, 3, none⟩ = some (.int .i64 0) := h3.c.cell 3; have k4 : w3.cell? ⟨gc, 4, none⟩ = some (.int .i64 0) := h3.c.cell 4; clear h3))
                  obtain ⟨LN, hLN⟩ : ∃ l, LM ++ [(⟨0, 1, 1, 1, 0⟩ : Leg), ⟨7, 0, 0, 0, 0⟩] = l := ⟨_, rfl⟩
                  have HLN := Lib.hid (by rw [← hLN]; simp : LN.length = LM.length + 2)
                  replace hown3 : w3.ownsRow b1 45 5 (.slice CA LN.length c3) LN.length (legsC LN) := by
                    have e1 : LN.length = LM.length + 2 := HLN.out
                    have e2 : legsC LN = legsC LM ++ [.int .i64 0, .int .i64 1, .int .i64 1, .int .i64 1, .int .i64 0, .int .i64 7, .int .i64 0, .int .i64 0, .int .i64 0, .int .i64 0] := by rw [← hLN]; simp [legsC, Leg.cs]
                    rw [e1, e2]
                    exact hown3
                  rw [← HLN.out]
                  have HO3 := Lib.hid ((HO.out.alloc (.cells #[.int .i64 0, .int .i64 1, .int .i64 1, .int .i64 1, .int .i64 0, .int .i64 7, .int .i64 0, .int .i64 0, .int .i64 0, .int .i64 0] 45)).grown hg3 (fun he => by have := hr2 _ he.symm; have := SB1.out; omega))
                  have HN3 := Lib.hid ((HN.out.alloc (.cells #[.int .i64 0, .int .i64 1, .int .i64 1, .int .i64 1, .int .i64 0, .int .i64 7, .int .i64 0, .int .i64 0, .int .i64 0, .int .i64 0] 45)).kept hg3 (by
                    cases hA : (Value.slice A L.length cc).ownBlock with
                    | none => exact .inl rfl
                    | some k => exact .inr fun he => by have h1 := hne.out k hA; have h2 := hr2 _ he.symm; omega))
                  have HM3 := Lib.hid hown3
                  clear hown3 H HO HN HM hg3 hr2 g0 g1 g2 g3 g4 hLN hS
                  refine (lawCheck_calls 3 2 0 0 0 ⟨5, 0, 0, 0, 0, 1, LN, []⟩ CA none c3 0 w3 ((Reads.of_own HM3.out)) Reads.none_ (by have := HL.out; have := HLM.out; have := HLN.out; show LN.length * 40 ≤ 140737488351232; omega) (by simp) (hG.below H3.out.b)).mono ?_
                  rintro e v1 ⟨rfl, hz1⟩
                  have HN := Lib.hid (own_below HN3.out hz1)
                  have HO := Lib.hid (HO3.out.below hz1 HO3.out.lt)
                  have H := Lib.hid (H3.out.below hz1)
                  clear hz1 k0 k1 k2 k3 k4 HN3 HO3 H3 HM3
                  have g0 : v1.cell? ⟨gc + 1, 0, none⟩ = some (.int .i64 0) := H.out.g.cell 0
                  have g1 : v1.cell? ⟨gc + 1, 1, none⟩ = some (.int .i64 1) := H.out.g.cell 1
                  have g2 : v1.cell? ⟨gc + 1, 2, none⟩ = some (.int .i64 1) := H.out.g.cell 2
                  have g3 : v1.cell? ⟨gc + 1, 3, none⟩ = some (.int .i64 1) := H.out.g.cell 3
                  have g4 : v1.cell? ⟨gc + 1, 4, none⟩ = some (.int .i64 0) := H.out.g.cell 4
                  go_wp2_with (first | (at_builtin; refine wpList_append_own _ rfl (.tmp 98) (.tmp 100) 30 rfl (go + 1) 45 i0 _ 5 40 Tryd.underlying30 hi0 hz0 hz1 hz2 rfl (by decide) _ L.length (legsC L) rfl (HN.out.alloc _) ⟨v1.heap.size, 0, none⟩ 1 1 [.int .i64 0, .int .i64 1, .int .i64 1, .int .i64 1, .int .i64 0] rfl rfl ?_ ?_ ?_ ?_ ?_ ?_; exact new_cells v1 45 [.int .i64 0, .int .i64 1, .int .i64 1, .int .i64 1, .int .i64 0]; (simp [Value.oneCell']); (have := HL.out; unfold maxLen; omega); (have := HL.out; omega); (have := HO.out.lt; simp; omega); intro v9 w4 hown4 hg4 _))
                  obtain ⟨DA, c4, rfl⟩ := own_slice_n hown4
                  have hr2 : ∀ b, (Value.slice A L.length cc).ownBlock = some b → go + 1 ≤ b := fun b hb => own_base HN.out hb
                  have hH4 := (H.out.alloc (.cells #[.int .i64 0, .int .i64 1, .int .i64 1, .int .i64 1, .int .i64 0] 45)).grown hgc hg4 (fun b hb => by have := hr2 b hb; have := sO.out; omega)
                  have hO4 := (HO.out.alloc (.cells #[.int .i64 0, .int .i64 1, .int .i64 1, .int .i64 1, .int .i64 0] 45)).grown hg4 (fun he => by have := hr2 _ he.symm; omega)
                  go_roundw
                  case rel =>
                    refine ⟨n + 1, L ++ [(⟨0, 1, 1, 1, 0⟩ : Leg)], by omega, by go_num, by simp [HL.out], ?_, hO4, hH4⟩
                    have e1 : (L ++ [(⟨0, 1, 1, 1, 0⟩ : Leg)]).length = L.length + 1 := by simp
                    have e2 : legsC (L ++ [(⟨0, 1, 1, 1, 0⟩ : Leg)]) = legsC L ++ [.int .i64 0, .int .i64 1, .int .i64 1, .int .i64 1, .int .i64 0] := by simp [legsC, Leg.cs]
                    rw [e1, e2]
                    exact hown4
                  case measure => simp [intOf]; omega
            · obtain rfl : n = 6 := by omega
              go_wp2_with (fail)
              go_roundw
              case rel => exact ⟨k + 1, by omega, by go_num, hO, hH⟩
              case measure => simp [intOf]; omega
        · obtain rfl : k = 8 := by omega
          go_wp2_with (fail)
          go_roundw
          case rel => exact ⟨i + 1, by omega, by go_num, hH⟩
          case measure => simp [intOf]; omega
    · obtain rfl : i = 9 := by omega
      go_wp2
      go_ret
      exact ⟨rfl, hH.b⟩
end Go.Proofs.YtmdkcggmnejkoaaDoor
