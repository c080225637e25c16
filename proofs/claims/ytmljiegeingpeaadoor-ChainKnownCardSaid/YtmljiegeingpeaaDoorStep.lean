/- custodylaw10.step: one call of a chain, held against the row (printed by gen_step.py). -/
import Derived.Test.YtmljiegeingpeaaDoorAllLaw
namespace Go.Proofs.YtmljiegeingpeaaDoor
set_option linter.unusedSimpArgs false
set_option linter.unusedVariables false
open Go.RowKit

theorem own_own_ne {w : World} {B B' : Nat} {e e' : TypeId} {s s' n n' : Nat} {v v' : Value} {xs xs' : List Value} (h : w.ownsRow B e s v n xs) (h' : w.ownsRow B' e' s' v' n' xs') (hne : e ≠ e') {b : Nat} (hb : v.ownBlock = some b) : v'.ownBlock ≠ some b := by
  rcases h.2 with h0 | ⟨g, cap, cur, rfl, _, h2, _⟩
  · rw [h0.1] at hb; cases hb
  · cases hb
    rcases h'.2 with h1 | ⟨g', cap', cur', rfl, _, h2', _⟩
    · rw [h1.1]; intro h; cases h
    · intro he
      cases he
      rw [h2] at h2'
      injection h2' with h2'
      injection h2' with _ h3 _
      exact hne h3
theorem rowR_but {w w' : World} {p : Nat} {sv rv : Value} {L l : List VerS} (h : Chn w p sv L) (hr : RowR w rv l) (hb : But w w' (OfC p sv)) : RowR w' rv l :=
  own_but hr hb fun b hbv ho => by
    rcases ho with rfl | ho
    · exact own_blk_ne hr h.blk (by decide) hbv
    · exact own_own_ne h.row hr (by decide) ho hbv
theorem rowR_below {w w' : World} {rv : Value} {l : List VerS} (hr : RowR w rv l) (hb : Below w.heap.size w w') : RowR w' rv l := own_below hr hb
theorem HG.but {w w' : World} {S : Nat → Prop} (h : HG w) (hb : But w w' S) (hS : ∀ i, S i → 0 < i) : HG w' :=
  (World.cell?_of_block (hb.block _ h.lt (fun hs => Nat.lt_irrefl _ (hS _ hs)))).trans h
theorem put_eq (L : List VerS) (n : Int) : (putE L n == putE L n) = true := by simp
theorem putE_range (L : List VerS) (n : Int) : 0 ≤ putE L n ∧ putE L n ≤ 24 := by unfold putE; split <;> omega
theorem MaxV.put {L : List VerS} (h : MaxV L) {x : VerS} (hx : x.n ≤ 9223372036854775807) : MaxV (putL L x) := by
  unfold putL
  split
  · intro y hy
    rcases List.mem_append.1 hy with hy | hy
    · exact h y hy
    · simp at hy; subst hy; exact hx
  · exact h
theorem MaxV.prune {L : List VerS} (h : MaxV L) (n : Int) : MaxV (pruneL L n) := by
  unfold pruneL
  split
  · exact h
  · exact fun y hy => h y (List.mem_of_mem_drop hy)

/-- What a step leaves. -/
def StepTo (w : World) (p : Nat) (sv : Value) (L : List VerS) (e : Ending) (w' : World) : Prop :=
  ∃ sv' rv' L', e = .returned (.tuple #[rv', .bool true]) ∧ Chn w' p sv' L' ∧ RowR w' rv' L' ∧ MaxV L' ∧ L'.length ≤ L.length + 1 ∧ But w w' (OfC p sv) ∧ (∀ b, sv'.ownBlock = some b → sv.ownBlock = some b ∨ w.heap.size ≤ b)

set_option maxRecDepth 100000 in
set_option maxHeartbeats 4000000 in
theorem step0_calls {p : Nat} {sv rv : Value} {L : List VerS} (on kd n : Int) (v : ByteArray) (w : World) (h : Chn w p sv L) (hr : RowR w rv L) (hx : MaxV L) (hn : n ≤ 9223372036854775807) (hlen : L.length < 9382499223000) (hG : HG w) (hF : ∀ i, OfC p sv i → 0 < i) :
    Calls Tryd.prog 26 #[.pointer (some ⟨p, 0, none⟩), rv, .agg #[.int .i64 on, .int .i64 kd, .int .i64 n, .string v], .int .i64 0] w (StepTo w p sv L) := by
  obtain ⟨g, hg⟩ : ∃ g, w.heap.size = g := ⟨_, rfl⟩
  obtain ⟨A, c, rfl⟩ := own_slice hr
  have H := Lib.hid h
  have HR := Lib.hid hr
  have HX := Lib.hid hx
  have HG1 := Lib.hid hG
  clear h hr hx hG
  go_enter Tryd.func26, Tryd.ntmps26
  go_wp2_with (fail)
  obtain ⟨W0, hW0⟩ : ∃ W, w.alloc (.cells #[.int .i64 on, .int .i64 kd, .int .i64 n, .string v] 48) = W := ⟨_, rfl⟩
  have hB0 : Below w.heap.size w W0 := hW0 ▸ (Below.refl _ _).alloc (Nat.le_refl _) _
  have hO : Blk W0 g 48 #[.int .i64 on, .int .i64 kd, .int .i64 n, .string v] := by rw [← hW0, ← hg]; exact Blk.new _ _ _
  have hC0 := H.out.below hB0
  have hR0 := rowR_below HR.out hB0
  have HO := Lib.hid hO
  have HB0 := Lib.hid hB0
  rw [hW0]
  clear hW0 hO hB0
  have f0 : W0.cell? ⟨g, 2, none⟩ = some (.int .i64 n) := HO.out.cell 2
  have v0 : W0.cell? ⟨g, 3, none⟩ = some (.string v) := HO.out.cell 3
  have HC0 := Lib.hid hC0
  have HR0 := Lib.hid hR0
  clear hC0 hR0
  refine (rput_calls L H.out.up _ n v W0 HR0.out hlen).mono ?_
  rintro e w1 ⟨rv1, rfl, hr1, hb1⟩
  have hO1 := HO.out.below hb1 HO.out.lt
  have hC1 := HC0.out.below hb1
  have fw1 : w1.cell? ⟨g, 2, none⟩ = some (.int .i64 n) := hO1.cell 2
  have vw1 : w1.cell? ⟨g, 3, none⟩ = some (.string v) := hO1.cell 3
  obtain ⟨RA, rc, rfl⟩ := own_slice hr1
  have HO1 := Lib.hid hO1
  have HC1 := Lib.hid hC1
  have HR1 := Lib.hid hr1
  have HB1 := Lib.hid hb1
  clear hO1 hC1 hr1 hb1 f0 v0
  go_wp2_with (fail)
  refine (put_calls n v w1 HC1.out hlen).mono ?_
  rintro e w2 ⟨sv2, rfl, hC2, hb2, hs2⟩
  have hR2 := rowR_but HC1.out HR1.out hb2
  have hBA : But w w2 (OfC p sv) := ((But.of_below HB0.out (OfC p sv)).trans (But.of_below HB1.out (OfC p sv)) (fun _ _ h => h)).trans hb2 (fun _ _ h => h)
  have hG2 := ((HG1.out.below HB0.out).below HB1.out).but hb2 hF
  have HC2 := Lib.hid hC2
  have HR2 := Lib.hid hR2
  have HBA := Lib.hid hBA
  have hxe := putE_range L n
  clear hC2 hR2 hBA fw1 vw1 hb2
  go_wp2_with (fail)
  refine (plain_errV (putE L n) (putE L n) w2 hxe.1 hxe.2 hG2).mono ?_
  rintro e w3 ⟨rfl, hb3⟩
  rw [put_eq]
  go_wp2
  go_ret2
  exact ⟨sv2, _, putL L ⟨n, v⟩, rfl, HC2.out.below hb3, rowR_below HR2.out hb3, HX.out.put hn, putL_len _ _, HBA.out.trans (But.of_below hb3 (OfC p sv)) (fun _ _ h => h), fun b hb => (hs2 b hb).imp id (fun h => Nat.le_trans (Nat.le_trans HB0.out.size HB1.out.size) h)⟩

set_option maxRecDepth 100000 in
set_option maxHeartbeats 4000000 in
theorem step1_calls {p : Nat} {sv rv : Value} {L : List VerS} (on kd n : Int) (v : ByteArray) (w : World) (h : Chn w p sv L) (hr : RowR w rv L) (hx : MaxV L) (hn : n ≤ 9223372036854775807) (hlen : L.length < 9382499223000) (hG : HG w) (hF : ∀ i, OfC p sv i → 0 < i) :
    Calls Tryd.prog 26 #[.pointer (some ⟨p, 0, none⟩), rv, .agg #[.int .i64 on, .int .i64 kd, .int .i64 n, .string v], .int .i64 1] w (StepTo w p sv L) := by
  obtain ⟨g, hg⟩ : ∃ g, w.heap.size = g := ⟨_, rfl⟩
  obtain ⟨A, c, rfl⟩ := own_slice hr
  have H := Lib.hid h
  have HR := Lib.hid hr
  have HX := Lib.hid hx
  have HG1 := Lib.hid hG
  clear h hr hx hG
  go_enter Tryd.func26, Tryd.ntmps26
  go_wp2_with (fail)
  obtain ⟨W0, hW0⟩ : ∃ W, w.alloc (.cells #[.int .i64 on, .int .i64 kd, .int .i64 n, .string v] 48) = W := ⟨_, rfl⟩
  have hB0 : Below w.heap.size w W0 := hW0 ▸ (Below.refl _ _).alloc (Nat.le_refl _) _
  have hO : Blk W0 g 48 #[.int .i64 on, .int .i64 kd, .int .i64 n, .string v] := by rw [← hW0, ← hg]; exact Blk.new _ _ _
  have hC0 := H.out.below hB0
  have hR0 := rowR_below HR.out hB0
  have HO := Lib.hid hO
  have HB0 := Lib.hid hB0
  rw [hW0]
  clear hW0 hO hB0
  have f0 : W0.cell? ⟨g, 2, none⟩ = some (.int .i64 n) := HO.out.cell 2
  have HC0 := Lib.hid hC0
  have HR0 := Lib.hid hR0
  clear hC0 hR0
  refine (rat_calls L H.out.up A c n W0 (Reads.of_own HR0.out) H.out.len).mono ?_
  rintro e w1 ⟨rfl, hb1⟩
  have hO1 := HO.out.below hb1 HO.out.lt
  have f1 : w1.cell? ⟨g, 2, none⟩ = some (.int .i64 n) := hO1.cell 2
  have HO1 := Lib.hid hO1
  clear hO1 f0
  go_wp2_with (fail)
  refine (at_calls n w1 (HC0.out.below hb1)).mono ?_
  rintro e w2 ⟨rfl, hb2⟩
  go_wp2
  go_ret2
  exact ⟨sv, _, L, rfl, HC0.out.below (hb1.trans (hb2.mono hb1.size)), rowR_below HR0.out (hb1.trans (hb2.mono hb1.size)), HX.out, by omega, But.of_below (HB0.out.trans ((hb1.trans (hb2.mono hb1.size)).mono HB0.out.size)) _, fun b hb => .inl hb⟩

set_option maxRecDepth 100000 in
set_option maxHeartbeats 4000000 in
theorem step2_calls {p : Nat} {sv rv : Value} {L : List VerS} (on kd n : Int) (v : ByteArray) (w : World) (h : Chn w p sv L) (hr : RowR w rv L) (hx : MaxV L) (hn : n ≤ 9223372036854775807) (hlen : L.length < 9382499223000) (hG : HG w) (hF : ∀ i, OfC p sv i → 0 < i) :
    Calls Tryd.prog 26 #[.pointer (some ⟨p, 0, none⟩), rv, .agg #[.int .i64 on, .int .i64 kd, .int .i64 n, .string v], .int .i64 2] w (StepTo w p sv L) := by
  obtain ⟨g, hg⟩ : ∃ g, w.heap.size = g := ⟨_, rfl⟩
  obtain ⟨A, c, rfl⟩ := own_slice hr
  have H := Lib.hid h
  have HR := Lib.hid hr
  have HX := Lib.hid hx
  have HG1 := Lib.hid hG
  clear h hr hx hG
  go_enter Tryd.func26, Tryd.ntmps26
  go_wp2_with (fail)
  obtain ⟨W0, hW0⟩ : ∃ W, w.alloc (.cells #[.int .i64 on, .int .i64 kd, .int .i64 n, .string v] 48) = W := ⟨_, rfl⟩
  have hB0 : Below w.heap.size w W0 := hW0 ▸ (Below.refl _ _).alloc (Nat.le_refl _) _
  have hO : Blk W0 g 48 #[.int .i64 on, .int .i64 kd, .int .i64 n, .string v] := by rw [← hW0, ← hg]; exact Blk.new _ _ _
  have hC0 := H.out.below hB0
  have hR0 := rowR_below HR.out hB0
  have HO := Lib.hid hO
  have HB0 := Lib.hid hB0
  rw [hW0]
  clear hW0 hO hB0
  have f0 : W0.cell? ⟨g, 2, none⟩ = some (.int .i64 n) := HO.out.cell 2
  have HC0 := Lib.hid hC0
  have HR0 := Lib.hid hR0
  clear hC0 hR0
  refine (rlast_calls L H.out.up HX.out A c W0 (Reads.of_own HR0.out) H.out.len).mono ?_
  rintro e w1 ⟨rfl, hb1⟩
  clear f0
  go_wp2_with (fail)
  refine (last_calls w1 (HC0.out.below hb1)).mono ?_
  rintro e w2 ⟨rfl, hb2⟩
  go_wp2
  go_ret2
  exact ⟨sv, _, L, rfl, HC0.out.below (hb1.trans (hb2.mono hb1.size)), rowR_below HR0.out (hb1.trans (hb2.mono hb1.size)), HX.out, by omega, But.of_below (HB0.out.trans ((hb1.trans (hb2.mono hb1.size)).mono HB0.out.size)) _, fun b hb => .inl hb⟩

set_option maxRecDepth 100000 in
set_option maxHeartbeats 4000000 in
theorem step3_calls {p : Nat} {sv rv : Value} {L : List VerS} (on kd n : Int) (v : ByteArray) (w : World) (h : Chn w p sv L) (hr : RowR w rv L) (hx : MaxV L) (hn : n ≤ 9223372036854775807) (hlen : L.length < 9382499223000) (hG : HG w) (hF : ∀ i, OfC p sv i → 0 < i) :
    Calls Tryd.prog 26 #[.pointer (some ⟨p, 0, none⟩), rv, .agg #[.int .i64 on, .int .i64 kd, .int .i64 n, .string v], .int .i64 3] w (StepTo w p sv L) := by
  obtain ⟨g, hg⟩ : ∃ g, w.heap.size = g := ⟨_, rfl⟩
  obtain ⟨A, c, rfl⟩ := own_slice hr
  have H := Lib.hid h
  have HR := Lib.hid hr
  have HX := Lib.hid hx
  have HG1 := Lib.hid hG
  clear h hr hx hG
  go_enter Tryd.func26, Tryd.ntmps26
  go_wp2_with (fail)
  obtain ⟨W0, hW0⟩ : ∃ W, w.alloc (.cells #[.int .i64 on, .int .i64 kd, .int .i64 n, .string v] 48) = W := ⟨_, rfl⟩
  have hB0 : Below w.heap.size w W0 := hW0 ▸ (Below.refl _ _).alloc (Nat.le_refl _) _
  have hO : Blk W0 g 48 #[.int .i64 on, .int .i64 kd, .int .i64 n, .string v] := by rw [← hW0, ← hg]; exact Blk.new _ _ _
  have hC0 := H.out.below hB0
  have hR0 := rowR_below HR.out hB0
  have HO := Lib.hid hO
  have HB0 := Lib.hid hB0
  rw [hW0]
  clear hW0 hO hB0
  have f0 : W0.cell? ⟨g, 2, none⟩ = some (.int .i64 n) := HO.out.cell 2
  have HC0 := Lib.hid hC0
  have HR0 := Lib.hid hR0
  clear hC0 hR0
  refine (rprune_calls L H.out.up _ n W0 HR0.out H.out.len).mono ?_
  rintro e w1 ⟨rv1, rfl, hr1, hb1⟩
  have hO1 := HO.out.below hb1 HO.out.lt
  have hC1 := HC0.out.below hb1
  have f1 : w1.cell? ⟨g, 2, none⟩ = some (.int .i64 n) := hO1.cell 2
  obtain ⟨RA, rc, rfl⟩ := own_slice hr1
  have HO1 := Lib.hid hO1
  have HC1 := Lib.hid hC1
  have HR1 := Lib.hid hr1
  have HB1 := Lib.hid hb1
  clear hO1 hC1 hr1 hb1 f0
  go_wp2_with (fail)
  refine (prune_calls n w1 HC1.out).mono ?_
  rintro e w2 ⟨sv2, rfl, hC2, hb2, hs2⟩
  have hR2 := rowR_but HC1.out HR1.out hb2
  have hBA : But w w2 (OfC p sv) := ((But.of_below HB0.out (OfC p sv)).trans (But.of_below HB1.out (OfC p sv)) (fun _ _ h => h)).trans hb2 (fun _ _ h => h)
  clear f1
  go_wp2
  go_ret2
  exact ⟨sv2, _, pruneL L n, rfl, hC2, hR2, HX.out.prune n, by have := pruneL_len L n; omega, hBA, fun b hb => (hs2 b hb).imp id (fun h => Nat.le_trans (Nat.le_trans HB0.out.size HB1.out.size) h)⟩

set_option maxRecDepth 100000 in
set_option maxHeartbeats 4000000 in
theorem step4_calls {p : Nat} {sv rv : Value} {L : List VerS} (on kd n : Int) (v : ByteArray) (w : World) (h : Chn w p sv L) (hr : RowR w rv L) (hx : MaxV L) (hn : n ≤ 9223372036854775807) (hlen : L.length < 9382499223000) (hG : HG w) (hF : ∀ i, OfC p sv i → 0 < i) :
    Calls Tryd.prog 26 #[.pointer (some ⟨p, 0, none⟩), rv, .agg #[.int .i64 on, .int .i64 kd, .int .i64 n, .string v], .int .i64 4] w (StepTo w p sv L) := by
  obtain ⟨g, hg⟩ : ∃ g, w.heap.size = g := ⟨_, rfl⟩
  obtain ⟨A, c, rfl⟩ := own_slice hr
  have H := Lib.hid h
  have HR := Lib.hid hr
  have HX := Lib.hid hx
  have HG1 := Lib.hid hG
  clear h hr hx hG
  go_enter Tryd.func26, Tryd.ntmps26
  go_wp2_with (fail)
  obtain ⟨W0, hW0⟩ : ∃ W, w.alloc (.cells #[.int .i64 on, .int .i64 kd, .int .i64 n, .string v] 48) = W := ⟨_, rfl⟩
  have hB0 : Below w.heap.size w W0 := hW0 ▸ (Below.refl _ _).alloc (Nat.le_refl _) _
  have hO : Blk W0 g 48 #[.int .i64 on, .int .i64 kd, .int .i64 n, .string v] := by rw [← hW0, ← hg]; exact Blk.new _ _ _
  have hC0 := H.out.below hB0
  have hR0 := rowR_below HR.out hB0
  have HO := Lib.hid hO
  have HB0 := Lib.hid hB0
  rw [hW0]
  clear hW0 hO hB0
  have f0 : W0.cell? ⟨g, 2, none⟩ = some (.int .i64 n) := HO.out.cell 2
  have HC0 := Lib.hid hC0
  have HR0 := Lib.hid hR0
  clear hC0 hR0
  clear f0
  refine (len_calls W0 HC0.out).mono ?_
  rintro e w1 ⟨rfl, rfl⟩
  go_wp2
  go_ret2
  exact ⟨sv, _, L, rfl, HC0.out.below (Below.refl _ _), rowR_below HR0.out (Below.refl _ _), HX.out, by omega, But.of_below (HB0.out.trans ((Below.refl _ _).mono HB0.out.size)) _, fun b hb => .inl hb⟩

set_option maxRecDepth 100000 in
set_option maxHeartbeats 4000000 in
theorem step5_calls {p : Nat} {sv rv : Value} {L : List VerS} (on kd n : Int) (v : ByteArray) (w : World) (h : Chn w p sv L) (hr : RowR w rv L) (hx : MaxV L) (hn : n ≤ 9223372036854775807) (hlen : L.length < 9382499223000) (hG : HG w) (hF : ∀ i, OfC p sv i → 0 < i) :
    Calls Tryd.prog 26 #[.pointer (some ⟨p, 0, none⟩), rv, .agg #[.int .i64 on, .int .i64 kd, .int .i64 n, .string v], .int .i64 5] w (StepTo w p sv L) := by
  obtain ⟨g, hg⟩ : ∃ g, w.heap.size = g := ⟨_, rfl⟩
  obtain ⟨A, c, rfl⟩ := own_slice hr
  have H := Lib.hid h
  have HR := Lib.hid hr
  have HX := Lib.hid hx
  have HG1 := Lib.hid hG
  clear h hr hx hG
  go_enter Tryd.func26, Tryd.ntmps26
  go_wp2_with (fail)
  obtain ⟨W0, hW0⟩ : ∃ W, w.alloc (.cells #[.int .i64 on, .int .i64 kd, .int .i64 n, .string v] 48) = W := ⟨_, rfl⟩
  have hB0 : Below w.heap.size w W0 := hW0 ▸ (Below.refl _ _).alloc (Nat.le_refl _) _
  have hO : Blk W0 g 48 #[.int .i64 on, .int .i64 kd, .int .i64 n, .string v] := by rw [← hW0, ← hg]; exact Blk.new _ _ _
  have hC0 := H.out.below hB0
  have hR0 := rowR_below HR.out hB0
  have HO := Lib.hid hO
  have HB0 := Lib.hid hB0
  rw [hW0]
  clear hW0 hO hB0
  have f0 : W0.cell? ⟨g, 2, none⟩ = some (.int .i64 n) := HO.out.cell 2
  have HC0 := Lib.hid hC0
  have HR0 := Lib.hid hR0
  clear hC0 hR0
  clear f0
  refine (allV_calls (L.length : Int) W0 HC0.out (Int.le_refl _)).mono ?_
  rintro e w1 ⟨v1, rfl, hr1, hb1⟩
  obtain ⟨RA, rc, rfl⟩ := own_slice hr1
  have hR1 := rowR_below HR0.out hb1
  have HR1 := Lib.hid hR1
  have HRA := Lib.hid hr1
  clear hR1 hr1
  go_wp2_with (fail)
  refine (sameV_calls L L RA A rc c w1 (Reads.of_own HRA.out) (Reads.of_own HR1.out) H.out.len).mono ?_
  rintro e w2 ⟨rfl, hb2⟩
  have hd : decide (L = L) = true := by simp
  go_wp2
  go_ret2
  exact ⟨sv, _, L, rfl, HC0.out.below (hb1.trans (hb2.mono hb1.size)), rowR_below HR0.out (hb1.trans (hb2.mono hb1.size)), HX.out, by omega, But.of_below (HB0.out.trans ((hb1.trans (hb2.mono hb1.size)).mono HB0.out.size)) _, fun b hb => .inl hb⟩
end Go.Proofs.YtmljiegeingpeaaDoor
