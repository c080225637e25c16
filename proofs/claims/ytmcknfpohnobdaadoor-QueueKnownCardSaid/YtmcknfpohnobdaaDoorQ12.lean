/- Queue: DeleteFunc at entries by a contract. -/
import Derived.Test.YtmcknfpohnobdaaDoorQ11
namespace Go.Proofs.YtmcknfpohnobdaaDoor
set_option linter.unusedSimpArgs false
set_option linter.unusedVariables false
open Go.RowKit Go.MapKept Go.ChangeMaps Go.Maps

theorem own_capQ {w : World} {base : Nat} {e : TypeId} {size n c : Nat} {A : Option Addr} {xs : List Value} (h : w.ownsRow base e size (.slice A n c) n xs) : n ≤ c := by
  rcases h.2 with ⟨h, _⟩ | ⟨g, cap, cur, h, _, _, hn, _⟩
  · injection h with _ h1 h2; omega
  · injection h with _ _ h2; omega
/-- The row while elements are moved down. -/
def shL (bs : List Nat) (j m : Nat) : List Nat := (bs.eraseIdx j).take (m - 1) ++ bs.drop (m - 1)
theorem shL_len {bs : List Nat} {j m : Nat} (hj : j < bs.length) (hm : m ≤ bs.length) (h1 : 1 ≤ m) : (shL bs j m).length = bs.length := by
  unfold shL
  rw [List.length_append, List.length_take, List.length_drop, List.length_eraseIdx, if_pos hj]
  omega
theorem shL_start {bs : List Nat} {j : Nat} (hj : j < bs.length) : shL bs j (j + 1) = bs := by
  unfold shL
  rw [Nat.add_sub_cancel, List.eraseIdx_eq_take_drop_succ, List.take_append_of_le_length (by rw [List.length_take]; omega), List.take_take, Nat.min_self, List.take_append_drop]
theorem add_zero_at (g k : Nat) : (⟨g, 0, none⟩ : Addr).add k = ⟨g, k, none⟩ := by
  unfold Addr.add
  split
  · rename_i h; subst h; rfl
  · simp
theorem own_blk {w : World} {base g c n : Nat} {e : TypeId} {xs : List Value} {s : Nat} (h : w.ownsRow base e s (.slice (some ⟨g, 0, none⟩) n c) n xs) : ∃ cur, Blk w g e cur := by
  rcases h.2 with h | ⟨g', cap, cur, hv, _, hh, _⟩
  · exact absurd h.1 (by simp)
  · injection hv with h1
    injection h1 with h1
    injection h1 with h1
    subst h1
    exact ⟨cur, hh⟩
theorem shL_get {bs : List Nat} {j m : Nat} (hj : j < bs.length) (h1 : 1 ≤ m) (hm : m < bs.length) : (shL bs j m)[m]? = some bs[m] := by
  unfold shL
  have hl : ((bs.eraseIdx j).take (m - 1)).length = m - 1 := by rw [List.length_take, List.length_eraseIdx, if_pos hj]; omega
  rw [List.getElem?_append_right (by omega), hl, List.getElem?_drop, show m - 1 + (m - (m - 1)) = m by omega, List.getElem?_eq_getElem hm]
theorem shL_step {bs : List Nat} {j m : Nat} (hj : j < bs.length) (h1 : j + 1 ≤ m) (hm : m < bs.length) : shL bs j (m + 1) = (shL bs j m).set (m - 1) bs[m] := by
  unfold shL
  have hl : ((bs.eraseIdx j).take (m - 1)).length = m - 1 := by rw [List.length_take, List.length_eraseIdx, if_pos hj]; omega
  rw [List.set_append_right _ _ (by omega), hl, Nat.sub_self, Nat.add_sub_cancel]
  have e1 : bs.drop (m - 1) = bs[m - 1] :: bs.drop m := by
    rw [List.drop_eq_getElem_cons (by omega), show m - 1 + 1 = m by omega]
  rw [e1, List.set_cons_zero]
  have hlt : m - 1 < (bs.eraseIdx j).length := by rw [List.length_eraseIdx, if_pos hj]; omega
  have e2 : (bs.eraseIdx j).take m = (bs.eraseIdx j).take (m - 1) ++ [bs[m]] := by
    have h2 := List.take_succ_eq_append_getElem hlt
    rw [show m - 1 + 1 = m by omega] at h2
    rw [h2, List.getElem_eraseIdx, dif_neg (by omega)]
    simp only [show m - 1 + 1 = m by omega]
  rw [e2, List.append_assoc]
  rfl
theorem shL_end {bs : List Nat} {j : Nat} (hj : j < bs.length) : (shL bs j bs.length).take (bs.length - 1) = bs.eraseIdx j := by
  unfold shL
  have hl : (bs.eraseIdx j).length = bs.length - 1 := by rw [List.length_eraseIdx, if_pos hj]
  rw [List.take_append_of_le_length (by rw [List.length_take, hl]; omega), List.take_take, Nat.min_self, List.take_of_length_le (by omega)]

set_option maxRecDepth 100000 in
set_option maxHeartbeats 4000000 in
theorem deleteQ_calls (bs : List Nat) (A : Option Addr) (c bx g j : Nat) (w : World) (hr : w.ownsRow 0 63 1 (.slice A bs.length c) bs.length (bs.map eP)) (hb : ∀ b ∈ bs, IsEnt w b) (hx : Blk w bx 63 #[.pointer (some ⟨g, 0, none⟩)])
    (hxr : (Value.slice A bs.length c).ownBlock ≠ some bx) (hj : j < bs.length) (hjg : bs[j] = g) (hno : ∀ i (hi : i < bs.length), i ≠ j → bs[i] ≠ g) (hlen : bs.length ≤ 5864062014805) :
    Calls Tryd.prog 45 #[.slice A bs.length c, .func (.func 46) #[] #[.pointer (some ⟨bx, 0, none⟩)]] w
      fun e w' => e = .returned (.slice A (bs.length - 1) c) ∧ w'.ownsRow 0 63 1 (.slice A (bs.length - 1) c) (bs.length - 1) ((bs.eraseIdx j).map eP) ∧ But w w' (fun i => (Value.slice A bs.length c).ownBlock = some i) := by
  obtain ⟨rg, rfl⟩ : ∃ rg, A = some ⟨rg, 0, none⟩ := by
    rcases hr.2 with h | ⟨rg, cap, cur, hv, _⟩
    · have := h.2; omega
    · injection hv with h1; exact ⟨rg, h1⟩
  have hg : IsEnt w g := hjg ▸ hb bs[j] (List.getElem_mem hj)
  have hidx := indexQ_calls bs (some ⟨rg, 0, none⟩) c bx g j w (Reads.of_own hr) hb (hx.cell 0) hg hj hjg (fun i hi h => hno i hi (by omega)) (by omega)
  have hcap : bs.length ≤ c := own_capQ hr
  have hcf := enters_of Tryd.func46 (by kernel_rfl) rfl
  unfold Enters at hcf
  have HIDX := Lib.hid hidx
  have HR := Lib.hid hr
  have HB := Lib.hid hb
  have HX := Lib.hid hx
  have HXR := Lib.hid hxr
  have HNO := Lib.hid hno
  have HG := Lib.hid hg
  clear hidx hr hb hx hxr hno hjg hg
  have hkj : ((j : Int) == -1) = false := by rw [beq_eq_false_iff_ne]; omega
  go_enter Tryd.func45, Tryd.ntmps45
  go_wp2_with (fail)
  refine HIDX.out.mono ?_
  rintro e w1 ⟨rfl, hw1⟩
  subst hw1
  clear HIDX
  have hj1 : ¬ (j : Int) = -1 := by omega
  go_wp2_with (fail)
  go_loopw [5, 6] (fun i m wr => ∃ k : Nat, j + 1 ≤ k ∧ k ≤ bs.length ∧ m = .int .i64 k ∧ i = .int .i64 ((k - 1 : Nat) : Int) ∧ wr.ownsRow 0 63 1 (.slice (some ⟨rg, 0, none⟩) bs.length c) bs.length ((shL bs j k).map eP) ∧ But w1 wr (fun i => i = rg)) (fun _ m _ => bs.length - (intOf m).toNat)
  case atStart => exact ⟨j + 1, Nat.le_refl _, hj, by go_num, by simp, by rw [shL_start hj]; exact HR.out, But.refl _ _⟩
  case round =>
    obtain ⟨k, hk1, hk2, rfl, rfl, hO, hBt⟩ := hrel
    have hbne : ∀ b, IsEnt w1 b → b ≠ rg := fun b hb' e => by
      obtain ⟨cs, hbk⟩ := hb'
      exact own_blk_ne HR.out hbk (by decide) (by rw [e]; rfl)
    have hxne : bx ≠ rg := fun e => HXR.out (by rw [e]; rfl)
    by_cases hlt : k < bs.length
    · have hkl : (k : Int) < bs.length := by omega
      have hE : ∀ b, IsEnt w1 b → IsEnt wr b := fun b hb' => by
        obtain ⟨cs, hbk⟩ := hb'
        exact ⟨cs, hbk.but hBt (hbne b ⟨cs, hbk⟩)⟩
      obtain ⟨ad, u, ead, _, hu, k0⟩ := (Reads.of_own hO).at_ hlt
      cases ead
      rw [List.getElem?_map, shL_get hj (by omega) hlt] at hu
      simp only [Option.map_some, Option.some.injEq] at hu
      have hbm := hE _ (HB.out bs[k] (List.getElem_mem hlt))
      have hne : bs[k] ≠ g := HNO.out k hlt (by omega)
      have hstep := shL_step hj hk1 hlt
      generalize bs[k] = x at hu hbm hne hstep
      unfold eP at hu
      subst hu
      have hcall := same_calls wr bx g x ((HX.out.but hBt hxne).cell 0) (hE g HG.out) hbm
      rw [decide_eq_false hne] at hcall
      have HC := Lib.hid hcall
      have hO2 := own_set1 hO (k := k - 1) (by omega) (.pointer (some ⟨x, 0, none⟩))
      rw [show (shL bs j k).map eP = (shL bs j k).map eP from rfl] at hO2
      have hO3 : ((shL bs j k).map eP).set (k - 1) (.pointer (some ⟨x, 0, none⟩)) = (shL bs j (k + 1)).map eP := by rw [hstep, List.map_set]; rfl
      rw [hO3] at hO2
      rw [add_zero_at] at k0
      have hl1 : k - 1 < bs.length := by omega
      obtain ⟨ad, u1, ead, _, _, k1⟩ := (Reads.of_own hO).at_ hl1
      cases ead
      rw [add_zero_at] at k1
      obtain ⟨cur, hcur⟩ := own_blk hO
      have kf : wr.frozen? ⟨rg, k - 1, none⟩ = false := hcur.frozen (k - 1)
      have hB2 : But w1 (wr.setCell ⟨rg, k - 1, none⟩ (.pointer (some ⟨x, 0, none⟩))) (fun i => i = rg) := hBt.setCell (fun _ => rfl) _
      have HB2 := Lib.hid hB2
      clear hB2 hcur hl1
      have HO2 := Lib.hid hO2
      have HBT := Lib.hid hBt
      have HO := Lib.hid hO
      have hk1l : ((k - 1 : Nat) : Int) < bs.length := by omega
      clear hcall hstep hO2 hO3 hE hbm hne hbne hxne hO hBt
      go_wp2_with (fail)
      refine HC.out.mono ?_
      rintro e w2 ⟨rfl, hw2⟩
      subst hw2
      go_wp2_with (fail)
      go_roundw
      case rel =>
        exact ⟨k + 1, by omega, by omega, by go_num, by rw [Nat.add_sub_cancel]; congr 1; omega, HO2.out, HB2.out⟩
      case measure => simp [intOf]; omega
    · obtain rfl : k = bs.length := by omega
      have hpos : 0 < bs.length := by omega
      have hl1 : bs.length - 1 < bs.length := by omega
      obtain ⟨ad, u1, ead, _, _, k1⟩ := (Reads.of_own hO).at_ hl1
      cases ead
      rw [add_zero_at] at k1
      obtain ⟨cur, hcur⟩ := own_blk hO
      have kf : wr.frozen? ⟨rg, bs.length - 1, none⟩ = false := hcur.frozen (bs.length - 1)
      have hcc : ∀ i, i < 1 → (wr.cell? ⟨rg, bs.length - 1 + i, none⟩).isSome = true := by
        intro i hi
        obtain rfl : i = 0 := by omega
        rw [Nat.add_zero, k1]; rfl
      have hcf1 : ∀ i, i < 1 → wr.frozen? ⟨rg, bs.length - 1 + i, none⟩ = false := by
        intro i hi
        obtain rfl : i = 0 := by omega
        exact kf
      have hcl := fun ty => Lib.run_clear_slice (P := Tryd.prog) wr 59 63 ty (.pointer none) Tryd.underlying59 (fun w => by kernel_rfl) rfl rfl rg (bs.length - 1) 1 (c - (bs.length - 1)) (by decide) hcc hcf1
      have hcl2 : (Builtin.clear_ #[59] 0 #[.slice (some ⟨rg, bs.length - 1, none⟩) (bs.length - (bs.length - 1)) (c - (bs.length - 1))]).run Tryd.prog wr = .ok (.tuple #[]) (wr.setCell ⟨rg, bs.length - 1, none⟩ (.pointer none)) := by
        rw [show bs.length - (bs.length - 1) = 1 by omega]
        exact hcl 0
      clear hcc hcf1 hcl
      have hO2 := own_cut1 (own_set1 hO (k := bs.length - 1) hl1 (.pointer none)) (Nat.sub_le _ 1)
      rw [List.take_set_of_le (Nat.le_refl _), ← List.map_take, shL_end hj] at hO2
      have hB2 : But w1 (wr.setCell ⟨rg, bs.length - 1, none⟩ (.pointer none)) (fun i => i = rg) := hBt.setCell (fun _ => rfl) _
      have HO2 := Lib.hid hO2
      have HB2 := Lib.hid hB2
      have hk1l : ((bs.length - 1 : Nat) : Int) < bs.length := by omega
      have hk1c : ((bs.length - 1 : Nat) : Int) ≤ c := by omega
      clear hO2 hB2 hcur hO hBt
      go_wp2
      go_ret
      exact ⟨rfl, HO2.out, HB2.out.weak (fun i _ h => by rw [h]; rfl)⟩
end Go.Proofs.YtmcknfpohnobdaaDoor
