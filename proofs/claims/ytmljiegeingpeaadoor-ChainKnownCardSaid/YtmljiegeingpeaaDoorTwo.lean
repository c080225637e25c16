/- Two chains and their rows, in two arrays (printed by gen_two.py). -/
import Derived.Test.YtmljiegeingpeaaDoorStep
namespace Go.Proofs.YtmljiegeingpeaaDoor
set_option linter.unusedSimpArgs false
set_option linter.unusedVariables false
open Go.RowKit

/-- Two chains and their rows. -/
structure Two (B k : Nat) (wr : World) (gx gr p0 p1 : Nat) (s0 s1 r0 r1 : Value) (L0 L1 : List VerS) : Prop where
  bx : Blk wr gx 60 #[.pointer (some ⟨p0, 0, none⟩), .pointer (some ⟨p1, 0, none⟩)]
  br : Blk wr gr 61 #[r0, r1]
  c0 : Chn wr p0 s0 L0
  c1 : Chn wr p1 s1 L1
  w0 : RowR wr r0 L0
  w1 : RowR wr r1 L1
  m0 : MaxV L0
  m1 : MaxV L1
  l0 : L0.length ≤ k
  l1 : L1.length ≤ k
  dj : ∀ i, OfC p0 s0 i → ¬ OfC p1 s1 i
  f0 : ∀ i, OfC p0 s0 i → B ≤ i
  f1 : ∀ i, OfC p1 s1 i → B ≤ i
section
variable {B k : Nat} {wr w2 : World} {gx gr p0 p1 : Nat} {s0 s1 r0 r1 : Value} {L0 L1 : List VerS}
theorem Two.below (h : Two B k wr gx gr p0 p1 s0 s1 r0 r1 L0 L1) (hb : Below wr.heap.size wr w2) : Two B k w2 gx gr p0 p1 s0 s1 r0 r1 L0 L1 :=
  ⟨h.bx.below hb h.bx.lt, h.br.below hb h.br.lt, h.c0.below hb, h.c1.below hb, rowR_below h.w0 hb, rowR_below h.w1 hb, h.m0, h.m1, h.l0, h.l1, h.dj, h.f0, h.f1⟩
theorem Two.up (h : Two B k wr gx gr p0 p1 s0 s1 r0 r1 L0 L1) {k' : Nat} (hk : k ≤ k') : Two B k' wr gx gr p0 p1 s0 s1 r0 r1 L0 L1 :=
  { h with l0 := Nat.le_trans h.l0 hk, l1 := Nat.le_trans h.l1 hk }
theorem of_blk_ne {g p : Nat} {sv : Value} {L : List VerS} {t : TypeId} {cs : Array Value} (hb : Blk wr g t cs) (h : Chn wr p sv L) (h1 : 76 ≠ t) (h2 : 78 ≠ t) : ¬ OfC p sv g := by
  rintro (he | he)
  · exact (h.blk.ne_ hb h1) he.symm
  · exact own_blk_ne h.row hb h2 he
theorem row_far {g : Nat} {rv : Value} {l : List VerS} {t : TypeId} {cs : Array Value} {i : Nat} {u : Value} (hb : Blk wr g t cs) (h : RowR wr rv l) (h2 : 72 ≠ t) : RowR (wr.setCell ⟨g, i, none⟩ u) rv l :=
  own_but (S := fun j => j = g) h ((But.refl wr (fun j => j = g)).setCell (fun _ => rfl) u) (fun b hbv he => own_blk_ne h hb h2 (he ▸ hbv))
theorem chn_far {g p i : Nat} {sv u : Value} {L : List VerS} {t : TypeId} {cs : Array Value} (hb : Blk wr g t cs) (h : Chn wr p sv L) (h1 : 76 ≠ t) (h2 : 78 ≠ t) : Chn (wr.setCell ⟨g, i, none⟩ u) p sv L :=
  h.but (S := fun j => j = g) ((But.refl wr (fun j => j = g)).setCell (fun _ => rfl) u) (fun j hj he => of_blk_ne hb h h1 h2 (he ▸ hj))
/-- A step on chain 0, its row laid down. -/
theorem Two.step0 (h : Two B k wr gx gr p0 p1 s0 s1 r0 r1 L0 L1) {sv' rv' : Value} {L' : List VerS} (hC : Chn w2 p0 sv' L') (hR : RowR w2 rv' L') (hM : MaxV L') (hl : L'.length ≤ L0.length + 1) (hb : But wr w2 (OfC p0 s0))
    (hs : ∀ b, sv'.ownBlock = some b → s0.ownBlock = some b ∨ wr.heap.size ≤ b) (hB : B ≤ wr.heap.size) : Two B (k + 1) (w2.setCell ⟨gr, 0, none⟩ rv') gx gr p0 p1 sv' s1 rv' r1 L' L1 := by
  have hgx : ¬ OfC p0 s0 gx := of_blk_ne h.bx h.c0 (by decide) (by decide)
  have hgr : ¬ OfC p0 s0 gr := of_blk_ne h.br h.c0 (by decide) (by decide)
  have bx2 := h.bx.but hb hgx
  have br2 := h.br.but hb hgr
  have c2 : Chn w2 p1 s1 L1 := h.c1.but hb (fun i hi => fun h1 => h.dj i h1 hi)
  have r2 := rowR_but h.c0 h.w1 hb
  have hxr : gx ≠ gr := bx2.ne_ br2 (by decide)
  have hold : ∀ i, OfC p0 sv' i → OfC p0 s0 i ∨ wr.heap.size ≤ i := by
    rintro i (rfl | hi)
    · exact .inl (.inl rfl)
    · exact (hs i hi).imp .inr id
  have hdj : ∀ i, OfC p0 sv' i → ¬ OfC p1 s1 i := by
    intro i hi hj
    rcases hold i hi with h1 | h1
    · exact h.dj i h1 hj
    · have := h.c1.of_lt hj; omega
  have hf : ∀ i, OfC p0 sv' i → B ≤ i := by
    intro i hi
    rcases hold i hi with h1 | h1
    · exact h.f0 i h1
    · omega
  exact ⟨bx2.far hxr _, br2.set_ 0 rv', chn_far br2 hC (by decide) (by decide), chn_far br2 c2 (by decide) (by decide), row_far br2 hR (by decide), row_far br2 r2 (by decide), hM, h.m1, (by have := h.l0; omega), (by have := h.l1; omega), hdj, hf, h.f1⟩
/-- A new chain in place 0. -/
theorem Two.fresh0 (h : Two B k wr gx gr p0 p1 s0 s1 r0 r1 L0 L1) {p' : Nat} (hC : Chn w2 p' (.slice none 0 0) []) (hp : wr.heap.size ≤ p') (hb : Below wr.heap.size wr w2) (hB : B ≤ wr.heap.size) :
    Two B k ((w2.setCell ⟨gx, 0, none⟩ (.pointer (some ⟨p', 0, none⟩))).setCell ⟨gr, 0, none⟩ (.slice none 0 0)) gx gr p' p1 (.slice none 0 0) s1 (.slice none 0 0) r1 [] L1 := by
  have bx2 := h.bx.below hb h.bx.lt
  have br2 := h.br.below hb h.br.lt
  have c2 := h.c1.below hb
  have r2 := rowR_below h.w1 hb
  have hxr : gx ≠ gr := bx2.ne_ br2 (by decide)
  have hof : ∀ i, OfC p' (.slice none 0 0) i → i = p' := by
    rintro i (rfl | hi)
    · rfl
    · cases hi
  have hdj : ∀ i, OfC p' (.slice none 0 0) i → ¬ OfC p1 s1 i := by
    intro i hi hj
    have h1 := hof i hi
    have := h.c1.of_lt hj; omega
  have hf : ∀ i, OfC p' (.slice none 0 0) i → B ≤ i := fun i hi => by have := hof i hi; omega
  have br3 : Blk (w2.setCell ⟨gx, 0, none⟩ (.pointer (some ⟨p', 0, none⟩))) gr 61 #[r0, r1] := br2.far (Ne.symm hxr) _
  exact ⟨(bx2.set_ 0 _).far hxr _, br3.set_ 0 _, chn_far br3 (chn_far bx2 hC (by decide) (by decide)) (by decide) (by decide), chn_far br3 (chn_far bx2 c2 (by decide) (by decide)) (by decide) (by decide), World.ownsRow_nil _ _ _ _, row_far br3 (row_far bx2 r2 (by decide)) (by decide), (fun x hx => by cases hx), h.m1, (Nat.zero_le _), h.l1, hdj, hf, h.f1⟩
/-- A step on chain 1, its row laid down. -/
theorem Two.step1 (h : Two B k wr gx gr p0 p1 s0 s1 r0 r1 L0 L1) {sv' rv' : Value} {L' : List VerS} (hC : Chn w2 p1 sv' L') (hR : RowR w2 rv' L') (hM : MaxV L') (hl : L'.length ≤ L1.length + 1) (hb : But wr w2 (OfC p1 s1))
    (hs : ∀ b, sv'.ownBlock = some b → s1.ownBlock = some b ∨ wr.heap.size ≤ b) (hB : B ≤ wr.heap.size) : Two B (k + 1) (w2.setCell ⟨gr, 1, none⟩ rv') gx gr p0 p1 s0 sv' r0 rv' L0 L' := by
  have hgx : ¬ OfC p1 s1 gx := of_blk_ne h.bx h.c1 (by decide) (by decide)
  have hgr : ¬ OfC p1 s1 gr := of_blk_ne h.br h.c1 (by decide) (by decide)
  have bx2 := h.bx.but hb hgx
  have br2 := h.br.but hb hgr
  have c2 : Chn w2 p0 s0 L0 := h.c0.but hb (fun i hi => h.dj i hi)
  have r2 := rowR_but h.c1 h.w0 hb
  have hxr : gx ≠ gr := bx2.ne_ br2 (by decide)
  have hold : ∀ i, OfC p1 sv' i → OfC p1 s1 i ∨ wr.heap.size ≤ i := by
    rintro i (rfl | hi)
    · exact .inl (.inl rfl)
    · exact (hs i hi).imp .inr id
  have hdj : ∀ i, OfC p1 sv' i → ¬ OfC p0 s0 i := by
    intro i hi hj
    rcases hold i hi with h1 | h1
    · exact h.dj i hj h1
    · have := h.c0.of_lt hj; omega
  have hf : ∀ i, OfC p1 sv' i → B ≤ i := by
    intro i hi
    rcases hold i hi with h1 | h1
    · exact h.f1 i h1
    · omega
  exact ⟨bx2.far hxr _, br2.set_ 1 rv', chn_far br2 c2 (by decide) (by decide), chn_far br2 hC (by decide) (by decide), row_far br2 r2 (by decide), row_far br2 hR (by decide), h.m0, hM, (by have := h.l0; omega), (by have := h.l1; omega), fun i h1 h2 => hdj i h2 h1, h.f0, hf⟩
/-- A new chain in place 1. -/
theorem Two.fresh1 (h : Two B k wr gx gr p0 p1 s0 s1 r0 r1 L0 L1) {p' : Nat} (hC : Chn w2 p' (.slice none 0 0) []) (hp : wr.heap.size ≤ p') (hb : Below wr.heap.size wr w2) (hB : B ≤ wr.heap.size) :
    Two B k ((w2.setCell ⟨gx, 1, none⟩ (.pointer (some ⟨p', 0, none⟩))).setCell ⟨gr, 1, none⟩ (.slice none 0 0)) gx gr p0 p' s0 (.slice none 0 0) r0 (.slice none 0 0) L0 [] := by
  have bx2 := h.bx.below hb h.bx.lt
  have br2 := h.br.below hb h.br.lt
  have c2 := h.c0.below hb
  have r2 := rowR_below h.w0 hb
  have hxr : gx ≠ gr := bx2.ne_ br2 (by decide)
  have hof : ∀ i, OfC p' (.slice none 0 0) i → i = p' := by
    rintro i (rfl | hi)
    · rfl
    · cases hi
  have hdj : ∀ i, OfC p' (.slice none 0 0) i → ¬ OfC p0 s0 i := by
    intro i hi hj
    have h1 := hof i hi
    have := h.c0.of_lt hj; omega
  have hf : ∀ i, OfC p' (.slice none 0 0) i → B ≤ i := fun i hi => by have := hof i hi; omega
  have br3 : Blk (w2.setCell ⟨gx, 1, none⟩ (.pointer (some ⟨p', 0, none⟩))) gr 61 #[r0, r1] := br2.far (Ne.symm hxr) _
  exact ⟨(bx2.set_ 1 _).far hxr _, br3.set_ 1 _, chn_far br3 (chn_far bx2 c2 (by decide) (by decide)) (by decide) (by decide), chn_far br3 (chn_far bx2 hC (by decide) (by decide)) (by decide) (by decide), row_far br3 (row_far bx2 r2 (by decide)) (by decide), World.ownsRow_nil _ _ _ _, h.m0, (fun x hx => by cases hx), h.l0, (Nat.zero_le _), fun i h1 h2 => hdj i h2 h1, h.f0, hf⟩
end

/-- A number from 0 to n - 1. -/
theorem pick_calls (x n : Int) (w : World) (hn : 1 ≤ n) (hn2 : n ≤ 1000) : Calls Tryd.prog 17 #[.int .i64 x, .int .i64 n] w fun e w' => ∃ r : Nat, e = .returned (.int .i64 r) ∧ (r : Int) < n ∧ w' = w := by
  have h1 : x.tmod n < n := Int.tmod_lt_of_pos x (by omega)
  have h2 : -n < x.tmod n := Int.lt_tmod_of_pos x (by omega)
  go_enter Tryd.func17, Tryd.ntmps17
  rcases Int.lt_or_le (x.tmod n) 0 with h3 | h3
  · have h4 : wrap64 (x.tmod n + n) = x.tmod n + n := (by unfold wrap64; omega)
    go_wp2
    go_ret
    exact ⟨(x.tmod n + n).toNat, by rw [Int.toNat_of_nonneg (by omega)]; first | rfl | simp [h4], by omega, rfl⟩
  · go_wp2
    go_ret
    exact ⟨(x.tmod n).toNat, by rw [Int.toNat_of_nonneg h3]; rfl, by omega, rfl⟩
end Go.Proofs.YtmljiegeingpeaaDoor
