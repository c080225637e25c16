/- Store: Prune. -/
import Derived.Test.YtflkddllofeiaaaDoorS7
import Derived.Test.YtflkddllofeiaaaDoorChain3
namespace Go.Proofs.YtflkddllofeiaaaDoor
set_option linter.unusedSimpArgs false
set_option linter.unusedVariables false
open Go.RowKit Go.MapKept Go.ChangeMaps Go.Maps

/-- The rows behind a pruning of a key's versions at m. -/
def prR (M : List (Key × List VerS)) (k : Key) (m : Int) : List (Key × List VerS) := if (mget M k).isSome then mput M k (pruneL (getR M k) m) else M
structure PruneS (w w' : World) (s s' : StV) (k : Key) (m : Int) : Prop where
  at_ : StAt w' s'
  en : s'.n = s.n
  ep : s'.p = s.p
  eR : s'.R = s.R
  ebg : s'.bg = s.bg
  erows : s'.rows = prR s.rows k m
  but : But w w' s.of
  new : ∀ i, s'.of i → s.of i ∨ w.heap.size ≤ i
def PruneSQ (w : World) (s : StV) (k : Key) (n : Int) (e : Ending) (w' : World) : Prop := ∃ s', e = .returned (.int .i64 (pruneN (getR s.rows k) (minL n s.R))) ∧ PruneS w w' s s' k (minL n s.R)
set_option maxRecDepth 100000 in
set_option maxHeartbeats 2000000 in
theorem pruneS_calls (s : StV) (k : Key) (n : Int) (w : World) (h : StAt w s) :
    Calls Tryd.prog 14 #[.pointer (some ⟨s.p, 0, none⟩), .agg #[.int .i64 k.acc, .int .i64 k.ast], .int .i64 n] w (PruneSQ w s k n) := by
  have hb0 : Below w.heap.size w (w.alloc (.cells #[.int .i64 k.acc, .int .i64 k.ast] 23)) := (Below.refl _ _).alloc (Nat.le_refl _) _
  have hB := Blk.new w 23 #[.int .i64 k.acc, .int .i64 k.ast]
  obtain ⟨W, hW⟩ : ∃ X, w.alloc (.cells #[.int .i64 k.acc, .int .i64 k.ast] 23) = X := ⟨_, rfl⟩
  obtain ⟨g, hg⟩ : ∃ g, w.heap.size = g := ⟨_, rfl⟩
  rw [hW] at hb0 hB
  have hd : Below W.heap.size W W.drew := (Below.refl _ _).drew
  have h1 := (h.below hb0).below hd
  rw [hg] at hB
  have q0 : W.cell? ⟨g, 0, none⟩ = some (.int .i64 k.acc) := hB.cell 0
  have q1 : W.cell? ⟨g, 1, none⟩ = some (.int .i64 k.ast) := hB.cell 1
  have hsh := shardS_calls s k W.drew h1
  obtain ⟨m, hm⟩ : ∃ m, s.map k = m := ⟨_, rfl⟩
  have hmap : ∀ w4, Below W.drew.heap.size W.drew w4 → StAt w4 s ∧ Below w.heap.size w w4 := fun w4 hb4 => ⟨h1.below hb4, hb0.trans ((hd.trans hb4).mono hb0.size)⟩
  have hold := fun w4 (hb4 : Below W.drew.heap.size W.drew w4) => oldestS_calls s n w4 (hmap w4 hb4).1
  obtain ⟨mn, hmn⟩ : ∃ mn, minL n s.R = mn := ⟨_, rfl⟩
  simp only [hmn] at hold
  have hpq : PruneSQ w s k n = fun e w' => ∃ s', e = .returned (.int .i64 (pruneN (getR s.rows k) mn)) ∧ PruneS w w' s s' k mn := by unfold PruneSQ; rw [hmn]
  rw [hpq]
  have HB0 := Lib.hid hb0
  have HMAP := Lib.hid hmap
  have HOLD := Lib.hid hold
  have HW := Lib.hid hW
  have HG := Lib.hid hg
  rw [hm] at hsh
  have HSH := Lib.hid hsh
  rcases h.cases k with ⟨a, c, b, P, Q, hs, hc, hf, hn1, hn2⟩ | ⟨P, Q, hc, hf, hn1, hn2⟩
  · have hlook : ∀ w4, Below W.drew.heap.size W.drew w4 → (Instr.lookup 56 (.map (some m)) (.agg #[.int .i64 k.acc, .int .i64 k.ast]) true).run Tryd.prog w4 = .ok (.tuple #[.pointer (some ⟨c.p, 0, none⟩), .bool true]) w4 := fun w4 hb4 => by
      have := (hmap w4 hb4).1.look_some hs hn1 true
      rw [hm] at this
      simpa using this
    have hmem : (k, c) ∈ s.chs := by rw [hc]; simp
    have hrows : s.rows = (P ++ (k, c) :: Q).map rowOf := by unfold StV.rows; rw [hc]
    have hget : getR s.rows k = c.L := by rw [hrows]; exact (rows_turned (c' := c) hn2).2
    have hsome : (mget s.rows k).isSome = true := by
      rw [hrows, List.map_append, List.map_cons, show rowOf (k, c) = (k, c.L) from rfl, mget_some (fun q hq => by
        obtain ⟨x, hx, rfl⟩ := List.mem_map.1 hq
        exact hn2 x (List.mem_append_left _ hx))]
      rfl
    have hfin : ∀ w5 w6 sv', StAt w5 s → Below w.heap.size w w5 → Chn w6 c.p sv' (pruneL c.L mn) → But w5 w6 (OfC c.p c.sv) → (∀ b, sv'.ownBlock = some b → c.sv.ownBlock = some b ∨ w5.heap.size ≤ b) → ∃ s', PruneS w w6 s s' k mn := by
      intro w5 w6 sv' h5 hb5 hch hb6 hnw
      have hnn : ∀ i, (Ch.mk c.p sv' (pruneL c.L mn)).of i → c.of i ∨ w5.heap.size ≤ i := fun i hi => by
        rcases hi with hi | hi
        · exact .inl (.inl hi)
        · exact (hnw i hi).imp (fun h => .inr h) (fun h => h)
      obtain ⟨t1, t2⟩ := h5.turned (c' := ⟨c.p, sv', pruneL c.L mn⟩) hs hc (hf _) hb6 rfl hch hnn
      refine ⟨_, t1, rfl, rfl, rfl, rfl, ?_, (But.of_below hb5 s.of).trans hb6 (fun i _ hi => .inr (.inr (.inr (.inr ⟨_, hmem, hi⟩)))), fun i hi => (t2 i hi).imp (fun h => h) (fun h => Nat.le_trans hb5.size h)⟩
      unfold prR
      rw [if_pos hsome, hget]
      unfold StV.rows StV.chs
      rw [hf, (rows_turned (c := c) (c' := ⟨c.p, sv', pruneL c.L mn⟩) hn2).1]
      have := hrows
      unfold StV.rows StV.chs at this
      rw [this]
    have hch : ∀ w4, StAt w4 s → Chn w4 c.p c.sv c.L := fun w4 h4 => h4.chs _ hmem
    have HLOOK := Lib.hid hlook
    have HCH := Lib.hid hch
    have HFIN := Lib.hid hfin
    rw [hget]
    clear hlook hch hsh hmem hget hs hc hf hn1 hn2 hmap hb0 hB hd h1 hW hg hm h hold hmn hpq hrows hsome hfin
    go_enter Tryd.func14, Tryd.ntmps14
    go_wp2_with (fail)
    rw [HW.out, HG.out]
    go_region_held3 (fun w' => w'.cell? ⟨g, 0, none⟩ = some (.int .i64 k.acc) ∧ w'.cell? ⟨g, 1, none⟩ = some (.int .i64 k.ast))
      (first | go_keep | fail)
      ((go_at_call 32; refine HSH.out.mono ?_; rintro e w4 ⟨rfl, hb4⟩; have r0 : w4.cell? ⟨g, 0, none⟩ = some (.int .i64 k.acc) := cell_below (w := W.drew) hb4 q0; have r1 : w4.cell? ⟨g, 1, none⟩ = some (.int .i64 k.ast) := cell_below (w := W.drew) hb4 q1; have hlk := HLOOK.out w4 hb4; have HB4 := Lib.hid hb4; clear hb4))
    clear hlk
    go_wp2_with (fail)
    refine (HOLD.out w4 HB4.out).mono ?_
    rintro e w5 ⟨rfl, hb5⟩
    have H5 := Lib.hid ((HMAP.out w4 HB4.out).1.below hb5)
    have HB5 := Lib.hid ((HMAP.out w4 HB4.out).2.trans (hb5.mono (HMAP.out w4 HB4.out).2.size))
    clear hb5
    have hpr := prune_calls mn w5 (HCH.out w5 H5.out)
    have HPR := Lib.hid hpr
    clear hpr
    go_wp2_with (fail)
    refine HPR.out.mono ?_
    rintro e w6 ⟨sv', rfl, hch, hb6, hnw⟩
    have hres := HFIN.out w5 w6 sv' H5.out HB5.out hch hb6 hnw
    have HRES := Lib.hid hres
    clear hres hch hb6 hnw
    go_wp2
    go_ret
    obtain ⟨s', h⟩ := HRES.out
    exact ⟨s', rfl, h⟩
  · have hlook : ∀ w4, Below W.drew.heap.size W.drew w4 → (Instr.lookup 56 (.map (some m)) (.agg #[.int .i64 k.acc, .int .i64 k.ast]) true).run Tryd.prog w4 = .ok (.tuple #[.pointer none, .bool false]) w4 := fun w4 hb4 => by
      have := (hmap w4 hb4).1.look_none hn1 true
      rw [hm] at this
      simpa using this
    have hrows : s.rows = (P ++ Q).map rowOf := by unfold StV.rows; rw [hc]
    have hget : getR s.rows k = [] := by rw [hrows]; exact (rows_none (c' := ⟨0, .slice none 0 0, []⟩) hn2).2
    have hnone : (mget s.rows k).isSome = false := by
      rw [hrows, mget_none (fun q hq => by
        obtain ⟨x, hx, rfl⟩ := List.mem_map.1 hq
        exact hn2 x hx)]
      rfl
    rw [hget, show pruneN ([] : List VerS) mn = 0 from rfl]
    have hfin : ∀ w4, Below W.drew.heap.size W.drew w4 → ∃ s', PruneS w w4 s s' k mn := fun w4 hb4 =>
      ⟨s, (hmap w4 hb4).1, rfl, rfl, rfl, rfl, by unfold prR; rw [if_neg (by rw [hnone]; decide)], But.of_below (hmap w4 hb4).2 _, fun i hi => .inl hi⟩
    have HLOOK := Lib.hid hlook
    have HFIN := Lib.hid hfin
    clear hlook hsh hget hc hf hn1 hn2 hmap hb0 hB hd h1 hW hg hm h hold hmn hpq hrows hnone hfin
    go_enter Tryd.func14, Tryd.ntmps14
    go_wp2_with (fail)
    rw [HW.out, HG.out]
    go_region_held3 (fun w' => w'.cell? ⟨g, 0, none⟩ = some (.int .i64 k.acc) ∧ w'.cell? ⟨g, 1, none⟩ = some (.int .i64 k.ast))
      (first | go_keep | fail)
      ((go_at_call 32; refine HSH.out.mono ?_; rintro e w4 ⟨rfl, hb4⟩; have r0 : w4.cell? ⟨g, 0, none⟩ = some (.int .i64 k.acc) := cell_below (w := W.drew) hb4 q0; have r1 : w4.cell? ⟨g, 1, none⟩ = some (.int .i64 k.ast) := cell_below (w := W.drew) hb4 q1; have hlk := HLOOK.out w4 hb4; have HB4 := Lib.hid hb4; clear hb4))
    clear hlk
    go_wp2
    go_ret
    obtain ⟨s', h⟩ := HFIN.out w4 HB4.out
    exact ⟨s', rfl, h⟩
end Go.Proofs.YtflkddllofeiaaaDoor
