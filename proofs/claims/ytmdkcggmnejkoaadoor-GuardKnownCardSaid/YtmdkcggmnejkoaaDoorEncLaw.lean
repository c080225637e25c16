/- Law GuardEncode: its walk (printed by gen_enclaw.py). -/
import Derived.Test.YtmdkcggmnejkoaaDoorRefEnc
import Derived.Test.YtmdkcggmnejkoaaDoorSame
import Derived.Test.YtmdkcggmnejkoaaDoorCheckLaw
import Derived.Test.YtmdkcggmnejkoaaDoorApartLongs
import Derived.Deep.DeepCutAuto
namespace Go.Proofs.YtmdkcggmnejkoaaDoor
set_option linter.unusedSimpArgs false
set_option linter.unusedVariables false
open Go.RowKit

theorem Reads.hop {w w' : World} {s n : Nat} {A : Option Addr} {xs : List Value} (h : Reads w w.heap.size s A n xs) (hb : Below w.heap.size w w') : Reads w' w'.heap.size s A n xs := (h.below hb).more hb.size
theorem Blk.hop {w w' : World} {g : Nat} {t : TypeId} {cs : Array Value} (h : Blk w g t cs) (hb : Below w.heap.size w w') : Blk w' g t cs := h.below hb h.lt
theorem hop_own {w w' : World} {base : Nat} {e : TypeId} {size n : Nat} {v : Value} {xs : List Value} (h : w.ownsRow base e size v n xs) (hb : Below w.heap.size w w') : w'.ownsRow base e size v n xs := own_below h hb
theorem own_block {w : World} {base g : Nat} {e : TypeId} {size n c : Nat} {xs : List Value} (h : w.ownsRow base e size (.slice (some ⟨g, 0, none⟩) n c) n xs) (h0 : 0 < n) : ∃ cur, Blk w g e cur ∧ n * size ≤ cur.size := by
  rcases h.2 with ⟨h1, _⟩ | ⟨g', cap, cur, h1, _, h3, h4, _, h5, _⟩
  · cases h1
  · injection h1 with h1 _ h2
    injection h1 with h1
    injection h1 with h1
    subst h1
    exact ⟨cur, h3, by rw [h5]; exact Nat.mul_le_mul_right _ h4⟩
theorem CR.hop {w w' : World} {B : Nat} {A : Option Addr} {l : List Int} (h : CR w B A l) (hb : Below w.heap.size w w') : CR w' B A l := by
  rcases h with h | ⟨g, cur, h1, h2, h3, h4⟩
  · exact .inl h
  · exact .inr ⟨g, cur, h1, h2, h3.below hb h3.lt, h4⟩
theorem CR.types {w w' : World} {B : Nat} {A : Option Addr} {l : List Int} {row : Option Nat} {e : TypeId} (h : CR w B A l) (hg : w.grownBy w' row) (hr : ∀ b, row = some b → ∃ cur, Blk w b e cur) (hne : 2 ≠ e) : CR w' B A l := by
  rcases h with h | ⟨g, cur, h1, h2, h3, h4⟩
  · exact .inl h
  · exact .inr ⟨g, cur, h1, h2, blk_types h3 hg hr hne, h4⟩
theorem CR.reads {w : World} {B : Nat} {A : Option Addr} {l : List Int} (h : CR w B A l) : Reads w w.heap.size 1 A l.length (intsC l) := by
  rcases h with ⟨rfl, rfl⟩ | ⟨g, cur, rfl, _, hb, hl, ht⟩
  · exact Reads.none_
  · refine ⟨by rw [← ht, List.length_take]; simp; omega, fun _ => ⟨_, rfl, hb.lt, fun j u hj => ?_⟩⟩
    rw [Addr.add_lit, Nat.zero_add, hb.cell j]
    rw [← ht, List.getElem?_take] at hj
    split at hj
    · simpa using hj
    · cases hj
theorem CR.fil {w : World} {B B0 : Nat} {A : Option Addr} {l : List Int} {ow : Nat → Nat} {k : Nat} (h : CR w B A l) (hB : B0 ≤ B) (how : ∀ b, B ≤ b → b < w.heap.size → ow b = k) (hm : l.length ≤ maxLen) : Fil longsMark 2 ow B0 w (.slice A l.length l.length) k l.length 0 := by
  rcases h with ⟨rfl, rfl⟩ | ⟨g, cur, rfl, hg, hb, hl, _⟩
  · exact .inl ⟨rfl, rfl⟩
  · exact .inr ⟨g, l.length, cur, rfl, by omega, how g hg hb.lt, hb, by omega, Nat.le_refl _, hm, Nat.zero_le _, fun i hi => by omega⟩

set_option maxRecDepth 100000 in
set_option maxHeartbeats 8000000 in
theorem lawEncode_calls (o : Op) (LA PA : Option Addr) (lc pc : Nat) (w : World) (rL : Reads w w.heap.size 5 LA o.legs.length (legsC o.legs)) (rP : Reads w w.heap.size 2 PA o.pairs.length (keysC o.pairs))
    (hol : o.legs.length * 40 ≤ 140737488351232) (hop : o.pairs.length * 16 ≤ 140737488351232) (hG : HG w) :
    Calls Tryd.prog 4 #[.agg #[.int .i64 o.code, .int .i64 o.acc, .int .i64 o.ast, .int .i64 o.qty, .int .i64 o.name, .int .i64 o.id, .slice LA o.legs.length lc, .slice PA o.pairs.length pc]] w fun e w' => e = .returned (.bool true) ∧ Below w.heap.size w w' := by
  obtain ⟨hE0, hE1⟩ := encE_num o
  have hRn := encR_len o hol hop
  obtain ⟨g, hg⟩ : ∃ g, w.heap.size = g := ⟨_, rfl⟩
  obtain ⟨W1, hW1⟩ : ∃ W1, w.alloc (.cells #[.int .i64 o.code, .int .i64 o.acc, .int .i64 o.ast, .int .i64 o.qty, .int .i64 o.name, .int .i64 o.id, .slice LA o.legs.length lc, .slice PA o.pairs.length pc] 33) = W1 := ⟨_, rfl⟩
  have B : Below w.heap.size w W1 := hW1 ▸ (Below.refl _ _).alloc (Nat.le_refl _) _
  have b1 : Blk W1 g 33 #[.int .i64 o.code, .int .i64 o.acc, .int .i64 o.ast, .int .i64 o.qty, .int .i64 o.name, .int .i64 o.id, .slice LA o.legs.length lc, .slice PA o.pairs.length pc] := by rw [← hW1, ← hg]; exact Blk.new _ _ _
  have k0 : W1.cell? ⟨g, 0, none⟩ = some (.int .i64 o.code) := b1.cell 0
  have k1 : W1.cell? ⟨g, 1, none⟩ = some (.int .i64 o.acc) := b1.cell 1
  have k2 : W1.cell? ⟨g, 2, none⟩ = some (.int .i64 o.ast) := b1.cell 2
  have k3 : W1.cell? ⟨g, 3, none⟩ = some (.int .i64 o.qty) := b1.cell 3
  have k4 : W1.cell? ⟨g, 4, none⟩ = some (.int .i64 o.name) := b1.cell 4
  have k5 : W1.cell? ⟨g, 5, none⟩ = some (.int .i64 o.id) := b1.cell 5
  have k6 : W1.cell? ⟨g, 6, none⟩ = some (.slice LA o.legs.length lc) := b1.cell 6
  have k7 : W1.cell? ⟨g, 7, none⟩ = some (.slice PA o.pairs.length pc) := b1.cell 7
  have B1 := Lib.hid b1
  clear b1
  go_enter Tryd.func4, Tryd.ntmps4
  go_wp2_with (fail)
  refine (refenc_calls o LA PA lc pc W1 (rL.hop B) (rP.hop B) hol hop).mono ?_
  rintro e w1 ⟨v, rfl, hwant, hb1⟩
  obtain ⟨VA, vc, rfl⟩ := own_slice_n hwant
  have b1 := B1.out
  clear B1 hW1
  clear k0 k1 k2 k3 k4 k5 k6 k7
  replace b1 := b1.hop hb1
  replace B := B.trans (hb1.mono B.size)
  clear hb1
  have k0 : w1.cell? ⟨g, 0, none⟩ = some (.int .i64 o.code) := b1.cell 0
  have k1 : w1.cell? ⟨g, 1, none⟩ = some (.int .i64 o.acc) := b1.cell 1
  have k2 : w1.cell? ⟨g, 2, none⟩ = some (.int .i64 o.ast) := b1.cell 2
  have k3 : w1.cell? ⟨g, 3, none⟩ = some (.int .i64 o.qty) := b1.cell 3
  have k4 : w1.cell? ⟨g, 4, none⟩ = some (.int .i64 o.name) := b1.cell 4
  have k5 : w1.cell? ⟨g, 5, none⟩ = some (.int .i64 o.id) := b1.cell 5
  have k6 : w1.cell? ⟨g, 6, none⟩ = some (.slice LA o.legs.length lc) := b1.cell 6
  have k7 : w1.cell? ⟨g, 7, none⟩ = some (.slice PA o.pairs.length pc) := b1.cell 7
  have k6' := fun ob => cell_alloc k6 ob
  go_wp2_with (fail)
  obtain ⟨W2, hW2⟩ : ∃ W2, w1.alloc (.cells #[.int .i64 o.code, .int .i64 o.acc, .int .i64 o.ast, .int .i64 o.qty, .int .i64 o.name, .int .i64 o.id, .slice LA o.legs.length lc, .slice PA o.pairs.length pc] 33) = W2 := ⟨_, rfl⟩
  have bx : Blk W2 w1.heap.size 33 #[.int .i64 o.code, .int .i64 o.acc, .int .i64 o.ast, .int .i64 o.qty, .int .i64 o.name, .int .i64 o.id, .slice LA o.legs.length lc, .slice PA o.pairs.length pc] := hW2 ▸ Blk.new _ _ _
  have hb2 : Below w1.heap.size w1 W2 := hW2 ▸ alloc_here _ _
  have sx := B.size
  have slg : g < w1.heap.size := b1.lt
  rw [hW2]
  clear hW2 k6'
  clear k0 k1 k2 k3 k4 k5 k6 k7
  replace b1 := b1.hop hb2
  replace B := B.trans (hb2.mono B.size)
  replace hwant := hop_own hwant hb2
  have sgx : w1.heap.size < W2.heap.size := bx.lt
  clear hb2
  generalize w1.heap.size = gx at bx sx sgx slg
  refine (lentLegs_calls o.legs _ _ W2.heap.size W2 (rL.hop B) (Nat.le_refl _) hol).mono ?_
  rintro e w3 ⟨g1, q1, rfl, hq1, hL, hb3⟩
  replace b1 := b1.hop hb3
  replace bx := bx.hop hb3
  replace B := B.trans (hb3.mono B.size)
  replace hwant := hop_own hwant hb3
  have sg1 : gx < g1 := by
    have h1 := own_base hL (k := g1) (by simp [Value.ownBlock])
    omega
  clear hb3
  obtain ⟨W4, hW4⟩ : ∃ W4, w3.setCell ⟨gx, 6, none⟩ (.slice (some ⟨g1, 0, none⟩) o.legs.length q1) = W4 := ⟨_, rfl⟩
  have hcx : w3.cell? ⟨gx, 6, none⟩ = some (.slice LA o.legs.length lc) := bx.cell 6
  have hfx : w3.frozen? ⟨gx, 6, none⟩ = false := bx.frozen 6
  have b14 : Blk W4 g 33 #[.int .i64 o.code, .int .i64 o.acc, .int .i64 o.ast, .int .i64 o.qty, .int .i64 o.name, .int .i64 o.id, .slice LA o.legs.length lc, .slice PA o.pairs.length pc] := hW4 ▸ b1.far (by show g ≠ gx; omega) _
  have bx4 : Blk W4 gx 33 #[.int .i64 o.code, .int .i64 o.acc, .int .i64 o.ast, .int .i64 o.qty, .int .i64 o.name, .int .i64 o.id, .slice (some ⟨g1, 0, none⟩) o.legs.length q1, .slice PA o.pairs.length pc] := hW4 ▸ bx.set_ 6 _
  have hwant4 := hW4 ▸ own_far hwant (own_blk_ne hwant bx (by decide)) (.slice (some ⟨g1, 0, none⟩) o.legs.length q1)
  have hL4 := hW4 ▸ own_far hL (own_blk_ne hL bx (by decide)) (.slice (some ⟨g1, 0, none⟩) o.legs.length q1)
  have B4 : Below w.heap.size w W4 := hW4 ▸ B.setCell (p := ⟨gx, 6, none⟩) (by show w.heap.size ≤ gx; omega) _
  have m7 : W4.cell? ⟨g, 7, none⟩ = some (.slice PA o.pairs.length pc) := b14.cell 7
  clear B b1 bx hwant hL
  go_wp2_with (fail)
  refine (lentKeys_calls o.pairs PA pc W4.heap.size W4 (rP.hop B4) (Nat.le_refl _) hop).mono ?_
  rintro e w5 ⟨g2, q2, rfl, hq2, hP, hb5⟩
  have b15 := b14.hop hb5
  have bx5 := bx4.hop hb5
  have hwant5 := hop_own hwant4 hb5
  have hL5 := hop_own hL4 hb5
  have B5 := B4.trans (hb5.mono B4.size)
  have sg2 : gx < g2 := by
    have h1 := own_base hP (k := g2) (by simp [Value.ownBlock])
    have := bx4.lt
    omega
  clear b14 bx4 hwant4 hL4 hb5 m7 hcx hfx hW4
  obtain ⟨W6, hW6⟩ : ∃ W6, w5.setCell ⟨gx, 7, none⟩ (.slice (some ⟨g2, 0, none⟩) o.pairs.length q2) = W6 := ⟨_, rfl⟩
  have hcx : w5.cell? ⟨gx, 7, none⟩ = some (.slice PA o.pairs.length pc) := bx5.cell 7
  have hfx : w5.frozen? ⟨gx, 7, none⟩ = false := bx5.frozen 7
  have b1 : Blk W6 g 33 #[.int .i64 o.code, .int .i64 o.acc, .int .i64 o.ast, .int .i64 o.qty, .int .i64 o.name, .int .i64 o.id, .slice LA o.legs.length lc, .slice PA o.pairs.length pc] := hW6 ▸ b15.far (by show g ≠ gx; omega) _
  have bx : Blk W6 gx 33 #[.int .i64 o.code, .int .i64 o.acc, .int .i64 o.ast, .int .i64 o.qty, .int .i64 o.name, .int .i64 o.id, .slice (some ⟨g1, 0, none⟩) o.legs.length q1, .slice (some ⟨g2, 0, none⟩) o.pairs.length q2] := hW6 ▸ bx5.set_ 7 _
  have hwant := hW6 ▸ own_far hwant5 (own_blk_ne hwant5 bx5 (by decide)) (.slice (some ⟨g2, 0, none⟩) o.pairs.length q2)
  have hL := hW6 ▸ own_far hL5 (own_blk_ne hL5 bx5 (by decide)) (.slice (some ⟨g2, 0, none⟩) o.pairs.length q2)
  have hK := hW6 ▸ own_far hP (own_blk_ne hP bx5 (by decide)) (.slice (some ⟨g2, 0, none⟩) o.pairs.length q2)
  have B : Below w.heap.size w W6 := hW6 ▸ B5.setCell (p := ⟨gx, 7, none⟩) (by show w.heap.size ≤ gx; omega) _
  clear b15 bx5 hwant5 hL5 hP B4 B5
  have k0 : W6.cell? ⟨gx, 0, none⟩ = some (.int .i64 o.code) := bx.cell 0
  have k1 : W6.cell? ⟨gx, 1, none⟩ = some (.int .i64 o.acc) := bx.cell 1
  have k2 : W6.cell? ⟨gx, 2, none⟩ = some (.int .i64 o.ast) := bx.cell 2
  have k3 : W6.cell? ⟨gx, 3, none⟩ = some (.int .i64 o.qty) := bx.cell 3
  have k4 : W6.cell? ⟨gx, 4, none⟩ = some (.int .i64 o.name) := bx.cell 4
  have k5 : W6.cell? ⟨gx, 5, none⟩ = some (.int .i64 o.id) := bx.cell 5
  have k6 : W6.cell? ⟨gx, 6, none⟩ = some (.slice (some ⟨g1, 0, none⟩) o.legs.length q1) := bx.cell 6
  have k7 : W6.cell? ⟨gx, 7, none⟩ = some (.slice (some ⟨g2, 0, none⟩) o.pairs.length q2) := bx.cell 7
  have BX := Lib.hid bx
  have B1 := Lib.hid b1
  clear bx b1
  go_wp2_with (fail)
  have bx := BX.out
  have b1 := B1.out
  clear BX B1 hW6 hcx hfx
  have r1 := Reads.pre Leg.len (Reads.of_own hL) (by rw [markLegss_len])
  have r2 := Reads.pre Key.len (Reads.of_own hK) (by rw [markKeyss_len])
  refine (encode_calls o _ _ q1 q2 W6 r1 r2 hol hop).mono ?_
  rintro e w7 he
  obtain ⟨A1, rfl, hone, hb7⟩ := enc_res he
  clear he
  have s6 := B.size
  clear k0 k1 k2 k3 k4 k5 k6 k7
  replace b1 := b1.hop hb7
  replace bx := bx.hop hb7
  replace r1 := r1.hop hb7
  replace r2 := r2.hop hb7
  replace B := B.trans (hb7.mono B.size)
  replace hwant := hop_own hwant hb7
  replace hL := hop_own hL hb7
  replace hK := hop_own hK hb7
  clear hb7
  have k0 : w7.cell? ⟨gx, 0, none⟩ = some (.int .i64 o.code) := bx.cell 0
  have k1 : w7.cell? ⟨gx, 1, none⟩ = some (.int .i64 o.acc) := bx.cell 1
  have k2 : w7.cell? ⟨gx, 2, none⟩ = some (.int .i64 o.ast) := bx.cell 2
  have k3 : w7.cell? ⟨gx, 3, none⟩ = some (.int .i64 o.qty) := bx.cell 3
  have k4 : w7.cell? ⟨gx, 4, none⟩ = some (.int .i64 o.name) := bx.cell 4
  have k5 : w7.cell? ⟨gx, 5, none⟩ = some (.int .i64 o.id) := bx.cell 5
  have k6 : w7.cell? ⟨gx, 6, none⟩ = some (.slice (some ⟨g1, 0, none⟩) o.legs.length q1) := bx.cell 6
  have k7 : w7.cell? ⟨gx, 7, none⟩ = some (.slice (some ⟨g2, 0, none⟩) o.pairs.length q2) := bx.cell 7
  go_wp2_with (fail)
  refine (encode_calls o _ _ q1 q2 w7 r1 r2 hol hop).mono ?_
  rintro e w8 he
  obtain ⟨A2, rfl, htwo, hb8⟩ := enc_res he
  clear he
  have hfil1 : ∀ b, W6.heap.size ≤ b → b < w7.heap.size → (fun b => if b < w7.heap.size then 0 else 1) b = 0 := fun b _ hb => if_pos hb
  have s7 := B.size
  clear k0 k1 k2 k3 k4 k5 k6 k7
  have hF1 : Fil longsMark 2 (fun b => if b < w7.heap.size then 0 else 1) w.heap.size w7 (.slice A1 (encR o).length (encR o).length) 0 (encR o).length 0 := hone.fil s6 (fun b _ hb => if_pos hb) (by unfold maxLen; omega)
  replace b1 := b1.hop hb8
  replace bx := bx.hop hb8
  replace hone := hone.hop hb8
  replace B := B.trans (hb8.mono B.size)
  replace hwant := hop_own hwant hb8
  replace hL := hop_own hL hb8
  replace hK := hop_own hK hb8
  have hF2 : Fil longsMark 2 (fun b => if b < w7.heap.size then 0 else 1) w.heap.size w8 (.slice A2 (encR o).length (encR o).length) 1 (encR o).length 0 := htwo.fil s7 (fun b hb _ => if_neg (by omega)) (by unfold maxLen; omega)
  replace hF1 := hF1.up hb8
  generalize (fun b => if b < w7.heap.size then 0 else 1) = ow at hF1 hF2
  clear hb8 hfil1 r1 r2 s6 s7
  have hGp := hG.below B
  have hGH := Lib.hid hGp
  clear hGp
  go_wp2_with (fail)
  refine (plain_errV _ _ _ hE0 hE1 hGH.out).mono ?_
  rintro e w9 ⟨rfl, hb9⟩
  rw [beq_self_eq_true]
  have hG9 := hGH.out.below hb9
  clear hGH
  replace b1 := b1.hop hb9
  replace hone := hone.hop hb9
  replace htwo := htwo.hop hb9
  replace hF1 := hF1.up hb9
  replace hF2 := hF2.up hb9
  replace B := B.trans (hb9.mono B.size)
  replace hwant := hop_own hwant hb9
  replace hL := hop_own hL hb9
  replace hK := hop_own hK hb9
  have HG9 := Lib.hid hG9
  clear hb9 hG9 bx
  go_wp2_with (fail)
  refine (plain_errV _ _ _ hE0 hE1 HG9.out).mono ?_
  rintro e w10 ⟨rfl, hb10⟩
  rw [beq_self_eq_true]
  replace b1 := b1.hop hb10
  replace hone := hone.hop hb10
  replace htwo := htwo.hop hb10
  replace hF1 := hF1.up hb10
  replace hF2 := hF2.up hb10
  replace B := B.trans (hb10.mono B.size)
  replace hwant := hop_own hwant hb10
  replace hL := hop_own hL hb10
  replace hK := hop_own hK hb10
  clear hb10
  go_wp2_with (fail)
  refine (sameLongs_calls (encR o) (encR o) _ _ _ _ w10 hone.reads (Reads.of_own hwant) (by omega)).mono ?_
  rintro e w11 ⟨rfl, hb11⟩
  rw [decide_eq_true rfl]
  replace b1 := b1.hop hb11
  replace hone := hone.hop hb11
  replace htwo := htwo.hop hb11
  replace hF1 := hF1.up hb11
  replace hF2 := hF2.up hb11
  replace B := B.trans (hb11.mono B.size)
  replace hwant := hop_own hwant hb11
  replace hL := hop_own hL hb11
  replace hK := hop_own hK hb11
  clear hb11
  go_wp2_with (fail)
  refine (sameLongs_calls (encR o) (encR o) _ _ _ _ w11 htwo.reads (Reads.of_own hwant) (by omega)).mono ?_
  rintro e w12 ⟨rfl, hb12⟩
  rw [decide_eq_true rfl]
  replace b1 := b1.hop hb12
  replace hone := hone.hop hb12
  replace htwo := htwo.hop hb12
  replace hF1 := hF1.up hb12
  replace hF2 := hF2.up hb12
  replace B := B.trans (hb12.mono B.size)
  replace hwant := hop_own hwant hb12
  replace hL := hop_own hL hb12
  replace hK := hop_own hK hb12
  clear hb12
  have k6 : w12.cell? ⟨g, 6, none⟩ = some (.slice LA o.legs.length lc) := b1.cell 6
  go_wp2_with (fail)
  refine (keptLegs_calls o.legs g1 LA q1 lc w12.heap.size w12 (Reads.of_own hL) hq1 (rL.hop B) (Nat.le_refl _) (by omega)).mono ?_
  rintro e w13 ⟨rfl, hb13⟩
  replace b1 := b1.hop hb13
  replace hone := hone.hop hb13
  replace htwo := htwo.hop hb13
  replace hF1 := hF1.up hb13
  replace hF2 := hF2.up hb13
  replace B := B.trans (hb13.mono B.size)
  replace hwant := hop_own hwant hb13
  replace hL := hop_own hL hb13
  replace hK := hop_own hK hb13
  clear hb13 k6
  have k7 : w13.cell? ⟨g, 7, none⟩ = some (.slice PA o.pairs.length pc) := b1.cell 7
  go_wp2_with (fail)
  refine (keptKeys_calls o.pairs g2 PA q2 pc w13.heap.size w13 (Reads.of_own hK) hq2 (rP.hop B) (Nat.le_refl _) (by omega)).mono ?_
  rintro e w14 ⟨rfl, hb14⟩
  replace hone := hone.hop hb14
  replace htwo := htwo.hop hb14
  replace hF1 := hF1.up hb14
  replace hF2 := hF2.up hb14
  replace B := B.trans (hb14.mono B.size)
  replace hwant := hop_own hwant hb14
  replace hL := hop_own hL hb14
  replace hK := hop_own hK hb14
  clear hb14 k7 b1
  obtain ⟨cur0, hc0, hc1⟩ := own_block hL (by omega)
  go_wp2_with (fail)
  go_loopw [12] (fun j wr => ∃ k : Nat, k ≤ o.legs.length ∧ j = .int .i64 k ∧ World.grownBy w14 wr (some g1) ∧ ∃ cur, Blk wr g1 45 cur ∧ o.legs.length * 5 ≤ cur.size) (fun j _ => o.legs.length - (intOf j).toNat)
  case atStart => exact ⟨0, Nat.zero_le _, rfl, ⟨rfl, rfl, rfl, Nat.le_refl _, fun _ _ _ => rfl⟩, cur0, hc0, by omega⟩
  case round =>
    obtain ⟨k, hk, rfl, hgr, cur, hbk, hsz⟩ := hrel
    by_cases hlt : k < o.legs.length
    · have hkl : (k : Int) < o.legs.length := by omega
      have hk0 : (0 : Int) ≤ k := by omega
      have hroom : (k + 1) * 5 ≤ o.legs.length * 5 := Nat.mul_le_mul_right _ (by omega)
      obtain ⟨u0, z0⟩ : ∃ u, wr.cell? ⟨g1, k * 5, none⟩ = some u := by rw [hbk.cell]; exact ⟨_, Array.getElem?_eq_getElem (by omega)⟩
      have f0 : wr.frozen? ⟨g1, k * 5, none⟩ = false := hbk.frozen _
      obtain ⟨u1, z1⟩ : ∃ u, wr.cell? ⟨g1, k * 5 + 1, none⟩ = some u := by rw [hbk.cell]; exact ⟨_, Array.getElem?_eq_getElem (by omega)⟩
      have f1 : wr.frozen? ⟨g1, k * 5 + 1, none⟩ = false := hbk.frozen _
      obtain ⟨u2, z2⟩ : ∃ u, wr.cell? ⟨g1, k * 5 + 2, none⟩ = some u := by rw [hbk.cell]; exact ⟨_, Array.getElem?_eq_getElem (by omega)⟩
      have f2 : wr.frozen? ⟨g1, k * 5 + 2, none⟩ = false := hbk.frozen _
      obtain ⟨u3, z3⟩ : ∃ u, wr.cell? ⟨g1, k * 5 + 3, none⟩ = some u := by rw [hbk.cell]; exact ⟨_, Array.getElem?_eq_getElem (by omega)⟩
      have f3 : wr.frozen? ⟨g1, k * 5 + 3, none⟩ = false := hbk.frozen _
      obtain ⟨u4, z4⟩ : ∃ u, wr.cell? ⟨g1, k * 5 + 4, none⟩ = some u := by rw [hbk.cell]; exact ⟨_, Array.getElem?_eq_getElem (by omega)⟩
      have f4 : wr.frozen? ⟨g1, k * 5 + 4, none⟩ = false := hbk.frozen _
      obtain ⟨cur', hbk', hsz'⟩ := blk_setCells [.int .i64 9, .int .i64 0, .int .i64 0, .int .i64 9, .int .i64 0] (k * 5) wr cur hbk
      have hgr' := hgr.trans (grown_setCells (g := g1) [.int .i64 9, .int .i64 0, .int .i64 0, .int .i64 9, .int .i64 0] (k * 5) wr)
      go_wp2
      go_roundw
      case rel => exact ⟨k + 1, by omega, by go_num, hgr', cur', hbk', by omega⟩
      case measure => simp [intOf]; omega
    · obtain rfl : k = o.legs.length := by omega
      have htt : ∀ b, (some g1 : Option Nat) = some b → ∃ cur, Blk w14 b 45 cur := fun b hb => by injection hb with hb; subst hb; exact ⟨_, hc0⟩
      replace hone := hone.types hgr htt (by decide)
      replace htwo := htwo.types hgr htt (by decide)
      replace hwant := own_types hwant hgr htt (by decide)
      replace hF1 := hF1.keep (ow' := ow) (fun b _ hb _ => hgr.block b hb.lt (fun he => by injection he with he; subst he; exact Blk.ne_ hb hc0 (by decide) rfl)) (fun _ _ => rfl)
      replace hF2 := hF2.keep (ow' := ow) (fun b _ hb _ => hgr.block b hb.lt (fun he => by injection he with he; subst he; exact Blk.ne_ hb hc0 (by decide) rfl)) (fun _ _ => rfl)
      replace B := B.grown hgr B.size (fun b hb => by injection hb with hb; omega)
      replace hK := own_types hK hgr htt (by decide)
      rename World => W15
      clear hc0 hc1 htt hgr hbk hsz hL hlt
      obtain ⟨cur0, hc0, hc1⟩ := own_block hK (by omega)
      go_wp2_with (fail)
      go_loopw [13] (fun j wr => ∃ k : Nat, k ≤ o.pairs.length ∧ j = .int .i64 k ∧ World.grownBy W15 wr (some g2) ∧ ∃ cur, Blk wr g2 47 cur ∧ o.pairs.length * 2 ≤ cur.size) (fun j _ => o.pairs.length - (intOf j).toNat)
      case atStart => exact ⟨0, Nat.zero_le _, rfl, ⟨rfl, rfl, rfl, Nat.le_refl _, fun _ _ _ => rfl⟩, cur0, hc0, by omega⟩
      case round =>
        obtain ⟨k, hk, rfl, hgr, cur, hbk, hsz⟩ := hrel
        by_cases hlt : k < o.pairs.length
        · have hkl : (k : Int) < o.pairs.length := by omega
          have hk0 : (0 : Int) ≤ k := by omega
          have hroom : (k + 1) * 2 ≤ o.pairs.length * 2 := Nat.mul_le_mul_right _ (by omega)
          obtain ⟨u0, z0⟩ : ∃ u, wr.cell? ⟨g2, k * 2, none⟩ = some u := by rw [hbk.cell]; exact ⟨_, Array.getElem?_eq_getElem (by omega)⟩
          have f0 : wr.frozen? ⟨g2, k * 2, none⟩ = false := hbk.frozen _
          obtain ⟨u1, z1⟩ : ∃ u, wr.cell? ⟨g2, k * 2 + 1, none⟩ = some u := by rw [hbk.cell]; exact ⟨_, Array.getElem?_eq_getElem (by omega)⟩
          have f1 : wr.frozen? ⟨g2, k * 2 + 1, none⟩ = false := hbk.frozen _
          obtain ⟨cur', hbk', hsz'⟩ := blk_setCells [.int .i64 9, .int .i64 0] (k * 2) wr cur hbk
          have hgr' := hgr.trans (grown_setCells (g := g2) [.int .i64 9, .int .i64 0] (k * 2) wr)
          go_wp2
          go_roundw
          case rel => exact ⟨k + 1, by omega, by go_num, hgr', cur', hbk', by omega⟩
          case measure => simp [intOf]; omega
        · obtain rfl : k = o.pairs.length := by omega
          have htt : ∀ b, (some g2 : Option Nat) = some b → ∃ cur, Blk W15 b 47 cur := fun b hb => by injection hb with hb; subst hb; exact ⟨_, hc0⟩
          replace hone := hone.types hgr htt (by decide)
          replace htwo := htwo.types hgr htt (by decide)
          replace hwant := own_types hwant hgr htt (by decide)
          replace hF1 := hF1.keep (ow' := ow) (fun b _ hb _ => hgr.block b hb.lt (fun he => by injection he with he; subst he; exact Blk.ne_ hb hc0 (by decide) rfl)) (fun _ _ => rfl)
          replace hF2 := hF2.keep (ow' := ow) (fun b _ hb _ => hgr.block b hb.lt (fun he => by injection he with he; subst he; exact Blk.ne_ hb hc0 (by decide) rfl)) (fun _ _ => rfl)
          replace B := B.grown hgr B.size (fun b hb => by injection hb with hb; omega)
          rename World => W16
          clear hc0 hc1 htt hgr hbk hsz hK hlt
          go_wp2_with (fail)
          refine (sameLongs_calls (encR o) (encR o) _ _ _ _ W16 hone.reads (Reads.of_own hwant) (by omega)).mono ?_
          rintro e w17 ⟨rfl, hb17⟩
          rw [decide_eq_true rfl]
          replace htwo := htwo.hop hb17
          replace hwant := hop_own hwant hb17
          replace hF1 := hF1.up hb17
          replace hF2 := hF2.up hb17
          replace B := B.trans (hb17.mono B.size)
          clear hb17 hone
          go_wp2_with (fail)
          refine (sameLongs_calls (encR o) (encR o) _ _ _ _ w17 htwo.reads (Reads.of_own hwant) (by omega)).mono ?_
          rintro e w18 ⟨rfl, hb18⟩
          rw [decide_eq_true rfl]
          replace hF1 := hF1.up hb18
          replace hF2 := hF2.up hb18
          replace B := B.trans (hb18.mono B.size)
          clear hb18 htwo hwant
          go_wp2_with (fail)
          refine (apartLongs_calls 2 w18.heap.size 2 (fun k => if k = 0 then .slice A1 (encR o).length (encR o).length else .slice A2 (encR o).length (encR o).length) (fun _ => (encR o).length) ow w.heap.size #[.slice A1 (encR o).length (encR o).length, .slice A2 (encR o).length (encR o).length] _ (Blk.new _ _ _) ?_ ?_ (by omega) (fun j _ => by omega) (by have := B.size; simp; omega)).mono ?_
          · intro k hk
            match k, hk with
            | 0, _ => rfl
            | 1, _ => rfl
          · intro j hj
            match j, hj with
            | 0, _ => exact hF1.up (alloc_here _ _)
            | 1, _ => exact hF2.up (alloc_here _ _)
          · rintro e w19 ⟨rfl, hb19, _⟩
            go_wp2
            go_ret
            exact ⟨rfl, (B.alloc B.size _).trans hb19⟩
end Go.Proofs.YtmdkcggmnejkoaaDoor
