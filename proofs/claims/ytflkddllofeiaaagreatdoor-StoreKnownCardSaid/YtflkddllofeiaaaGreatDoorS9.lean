/- Store: Prune. -/
import Derived.Test.YtflkddllofeiaaaGreatDoorS7
import Derived.Test.YtflkddllofeiaaaGreatDoorChain3
import Derived.Test.YtflkddllofeiaaaGreatDoorKeyCmp
import Derived.Sort.Grow
namespace Go.Proofs.YtflkddllofeiaaaGreatDoor
set_option linter.unusedSimpArgs false
set_option linter.unusedVariables false
open Go.RowKit Go.MapKept Go.ChangeMaps Go.Maps

/-- The rows behind a pruning of a key's versions at m. -/
def prR (M : List (Key × List VerS)) (k : Key) (m : Int) : List (Key × List VerS) := if (mget M k).isSome then mput M k (pruneL (getR M k) m) else M
structure PruneS (w w' : World) (s s' : StV) (k : Key) (m : Int) : Prop where
  at_ : StAt w' s'
  en : s'.n = s.n
  ep : s'.p = s.p
  eR : s'.R = s.R
  ebg : s'.bg = s.bg
  erows : s'.rows = prR s.rows k m
  but : But w w' s.of
  new : ∀ i, s'.of i → s.of i ∨ w.heap.size ≤ i
def PruneSQ (w : World) (s : StV) (k : Key) (n : Int) (e : Ending) (w' : World) : Prop := ∃ s', e = .returned (.int .i64 (pruneN (getR s.rows k) (minL n s.R))) ∧ PruneS w w' s s' k (minL n s.R)
set_option maxRecDepth 100000 in
set_option maxHeartbeats 2000000 in
theorem pruneS_calls (s : StV) (k : Key) (n : Int) (w : World) (h : StAt w s) :
    Calls Tryz.prog 35 #[.pointer (some ⟨s.p, 0, none⟩), .agg #[.int .i64 k.acc, .int .i64 k.ast], .int .i64 n] w (PruneSQ w s k n) := by
  have hb0 : Below w.heap.size w (w.alloc (.cells #[.int .i64 k.acc, .int .i64 k.ast] 33)) := (Below.refl _ _).alloc (Nat.le_refl _) _
  have hB := Blk.new w 33 #[.int .i64 k.acc, .int .i64 k.ast]
  obtain ⟨W, hW⟩ : ∃ X, w.alloc (.cells #[.int .i64 k.acc, .int .i64 k.ast] 33) = X := ⟨_, rfl⟩
  obtain ⟨g, hg⟩ : ∃ g, w.heap.size = g := ⟨_, rfl⟩
  rw [hW] at hb0 hB
  have hd : Below W.heap.size W W.drew := (Below.refl _ _).drew
  have h1 := (h.below hb0).below hd
  rw [hg] at hB
  have q0 : W.cell? ⟨g, 0, none⟩ = some (.int .i64 k.acc) := hB.cell 0
  have q1 : W.cell? ⟨g, 1, none⟩ = some (.int .i64 k.ast) := hB.cell 1
  have hsh := shardS_calls s k W.drew h1
  obtain ⟨m, hm⟩ : ∃ m, s.map k = m := ⟨_, rfl⟩
  have hmap : ∀ w4, Below W.drew.heap.size W.drew w4 → StAt w4 s ∧ Below w.heap.size w w4 := fun w4 hb4 => ⟨h1.below hb4, hb0.trans ((hd.trans hb4).mono hb0.size)⟩
  have hold := fun w4 (hb4 : Below W.drew.heap.size W.drew w4) => oldestS_calls s n w4 (hmap w4 hb4).1
  obtain ⟨mn, hmn⟩ : ∃ mn, minL n s.R = mn := ⟨_, rfl⟩
  simp only [hmn] at hold
  have hpq : PruneSQ w s k n = fun e w' => ∃ s', e = .returned (.int .i64 (pruneN (getR s.rows k) mn)) ∧ PruneS w w' s s' k mn := by unfold PruneSQ; rw [hmn]
  rw [hpq]
  have HB0 := Lib.hid hb0
  have HMAP := Lib.hid hmap
  have HOLD := Lib.hid hold
  have HW := Lib.hid hW
  have HG := Lib.hid hg
  rw [hm] at hsh
  have HSH := Lib.hid hsh
  rcases h.cases k with ⟨a, c, b, P, Q, hs, hc, hf, hn1, hn2⟩ | ⟨P, Q, hc, hf, hn1, hn2⟩
  · have hlook : ∀ w4, Below W.drew.heap.size W.drew w4 → (Instr.lookup 59 (.map (some m)) (.agg #[.int .i64 k.acc, .int .i64 k.ast]) true).run Tryz.prog w4 = .ok (.tuple #[.pointer (some ⟨c.p, 0, none⟩), .bool true]) w4 := fun w4 hb4 => by
      have := (hmap w4 hb4).1.look_some hs hn1 true
      rw [hm] at this
      simpa using this
    have hmem : (k, c) ∈ s.chs := by rw [hc]; simp
    have hrows : s.rows = (P ++ (k, c) :: Q).map rowOf := by unfold StV.rows; rw [hc]
    have hget : getR s.rows k = c.L := by rw [hrows]; exact (rows_turned (c' := c) hn2).2
    have hsome : (mget s.rows k).isSome = true := by
      rw [hrows, List.map_append, List.map_cons, show rowOf (k, c) = (k, c.L) from rfl, mget_some (fun q hq => by
        obtain ⟨x, hx, rfl⟩ := List.mem_map.1 hq
        exact hn2 x (List.mem_append_left _ hx))]
      rfl
    have hfin : ∀ w5 w6 sv', StAt w5 s → Below w.heap.size w w5 → Chn w6 c.p sv' (pruneL c.L mn) → But w5 w6 (OfC c.p c.sv) → (∀ b, sv'.ownBlock = some b → c.sv.ownBlock = some b ∨ w5.heap.size ≤ b) → ∃ s', PruneS w w6 s s' k mn := by
      intro w5 w6 sv' h5 hb5 hch hb6 hnw
      have hnn : ∀ i, (Ch.mk c.p sv' (pruneL c.L mn)).of i → c.of i ∨ w5.heap.size ≤ i := fun i hi => by
        rcases hi with hi | hi
        · exact .inl (.inl hi)
        · exact (hnw i hi).imp (fun h => .inr h) (fun h => h)
      obtain ⟨t1, t2⟩ := h5.turned (c' := ⟨c.p, sv', pruneL c.L mn⟩) hs hc (hf _) hb6 rfl hch hnn
      refine ⟨_, t1, rfl, rfl, rfl, rfl, ?_, (But.of_below hb5 s.of).trans hb6 (fun i _ hi => .inr (.inr (.inr (.inr ⟨_, hmem, hi⟩)))), fun i hi => (t2 i hi).imp (fun h => h) (fun h => Nat.le_trans hb5.size h)⟩
      unfold prR
      rw [if_pos hsome, hget]
      unfold StV.rows StV.chs
      rw [hf, (rows_turned (c := c) (c' := ⟨c.p, sv', pruneL c.L mn⟩) hn2).1]
      have := hrows
      unfold StV.rows StV.chs at this
      rw [this]
    have hch : ∀ w4, StAt w4 s → Chn w4 c.p c.sv c.L := fun w4 h4 => h4.chs _ hmem
    have HLOOK := Lib.hid hlook
    have HCH := Lib.hid hch
    have HFIN := Lib.hid hfin
    rw [hget]
    clear hlook hch hsh hmem hget hs hc hf hn1 hn2 hmap hb0 hB hd h1 hW hg hm h hold hmn hpq hrows hsome hfin
    go_enter Tryz.func35, Tryz.ntmps35
    go_wp2_with (fail)
    rw [HW.out, HG.out]
    go_region_held3 (fun w' => w'.cell? ⟨g, 0, none⟩ = some (.int .i64 k.acc) ∧ w'.cell? ⟨g, 1, none⟩ = some (.int .i64 k.ast))
      (first | go_keep | fail)
      ((go_at_call 64; refine HSH.out.mono ?_; rintro e w4 ⟨rfl, hb4⟩; have r0 : w4.cell? ⟨g, 0, none⟩ = some (.int .i64 k.acc) := cell_below (w := W.drew) hb4 q0; have r1 : w4.cell? ⟨g, 1, none⟩ = some (.int .i64 k.ast) := cell_below (w := W.drew) hb4 q1; have hlk := HLOOK.out w4 hb4; have HB4 := Lib.hid hb4; clear hb4))
    clear hlk
    go_wp2_with (fail)
    refine (HOLD.out w4 HB4.out).mono ?_
    rintro e w5 ⟨rfl, hb5⟩
    have H5 := Lib.hid ((HMAP.out w4 HB4.out).1.below hb5)
    have HB5 := Lib.hid ((HMAP.out w4 HB4.out).2.trans (hb5.mono (HMAP.out w4 HB4.out).2.size))
    clear hb5
    have hpr := prune_calls mn w5 (HCH.out w5 H5.out)
    have HPR := Lib.hid hpr
    clear hpr
    go_wp2_with (fail)
    refine HPR.out.mono ?_
    rintro e w6 ⟨sv', rfl, hch, hb6, hnw⟩
    have hres := HFIN.out w5 w6 sv' H5.out HB5.out hch hb6 hnw
    have HRES := Lib.hid hres
    clear hres hch hb6 hnw
    go_wp2
    go_ret
    obtain ⟨s', h⟩ := HRES.out
    exact ⟨s', rfl, h⟩
  · have hlook : ∀ w4, Below W.drew.heap.size W.drew w4 → (Instr.lookup 59 (.map (some m)) (.agg #[.int .i64 k.acc, .int .i64 k.ast]) true).run Tryz.prog w4 = .ok (.tuple #[.pointer none, .bool false]) w4 := fun w4 hb4 => by
      have := (hmap w4 hb4).1.look_none hn1 true
      rw [hm] at this
      simpa using this
    have hrows : s.rows = (P ++ Q).map rowOf := by unfold StV.rows; rw [hc]
    have hget : getR s.rows k = [] := by rw [hrows]; exact (rows_none (c' := ⟨0, .slice none 0 0, []⟩) hn2).2
    have hnone : (mget s.rows k).isSome = false := by
      rw [hrows, mget_none (fun q hq => by
        obtain ⟨x, hx, rfl⟩ := List.mem_map.1 hq
        exact hn2 x hx)]
      rfl
    rw [hget, show pruneN ([] : List VerS) mn = 0 from rfl]
    have hfin : ∀ w4, Below W.drew.heap.size W.drew w4 → ∃ s', PruneS w w4 s s' k mn := fun w4 hb4 =>
      ⟨s, (hmap w4 hb4).1, rfl, rfl, rfl, rfl, by unfold prR; rw [if_neg (by rw [hnone]; decide)], But.of_below (hmap w4 hb4).2 _, fun i hi => .inl hi⟩
    have HLOOK := Lib.hid hlook
    have HFIN := Lib.hid hfin
    clear hlook hsh hget hc hf hn1 hn2 hmap hb0 hB hd h1 hW hg hm h hold hmn hpq hrows hnone hfin
    go_enter Tryz.func35, Tryz.ntmps35
    go_wp2_with (fail)
    rw [HW.out, HG.out]
    go_region_held3 (fun w' => w'.cell? ⟨g, 0, none⟩ = some (.int .i64 k.acc) ∧ w'.cell? ⟨g, 1, none⟩ = some (.int .i64 k.ast))
      (first | go_keep | fail)
      ((go_at_call 64; refine HSH.out.mono ?_; rintro e w4 ⟨rfl, hb4⟩; have r0 : w4.cell? ⟨g, 0, none⟩ = some (.int .i64 k.acc) := cell_below (w := W.drew) hb4 q0; have r1 : w4.cell? ⟨g, 1, none⟩ = some (.int .i64 k.ast) := cell_below (w := W.drew) hb4 q1; have hlk := HLOOK.out w4 hb4; have HB4 := Lib.hid hb4; clear hb4))
    clear hlk
    go_wp2
    go_ret
    obtain ⟨s', h⟩ := HFIN.out w4 HB4.out
    exact ⟨s', rfl, h⟩
end Go.Proofs.YtflkddllofeiaaaGreatDoor

/- Store: the order of keys. -/
namespace Go.Proofs.YtflkddllofeiaaaGreatDoor
open Go.RowKit Go.MapKept Go.ChangeMaps Go.Maps

theorem grow3 (W : World) (n : Nat) (a b c : Obj) : (((W.alloc a).alloc b).drewN n).alloc c = Go.Sort.grow (W.drewN n) #[a, b, c] := by
  have e1 : (W.alloc a).alloc b = Go.Sort.grow W #[a, b] := by
    rw [Go.Sort.alloc_eq_grow W, Go.Sort.alloc_eq_grow (Go.Sort.grow W #[a]) b, Go.Sort.grow_grow]
    rfl
  rw [e1]
  show (Go.Sort.grow (W.drewN n) #[a, b]).alloc c = _
  rw [Go.Sort.alloc_eq_grow, Go.Sort.grow_grow]
  rfl
set_option maxRecDepth 100000 in
set_option maxHeartbeats 1000000 in
theorem keyCmp_calls (x y : Key) (W : World) : Calls Tryz.prog 44 #[.agg #[.int .i64 x.acc, .int .i64 x.ast], .agg #[.int .i64 y.acc, .int .i64 y.ast]] W
    fun e w' => e = .returned (.int .i64 (cmpK x y)) ∧ ∃ q os', w' = Go.Sort.grow (W.drewN q) os' := by
  have hbx := Blk.new W 33 #[.int .i64 x.acc, .int .i64 x.ast]
  have hby := Blk.new (W.alloc (.cells #[.int .i64 x.acc, .int .i64 x.ast] 33)) 33 #[.int .i64 y.acc, .int .i64 y.ast]
  obtain ⟨V, hV⟩ : ∃ X, (W.alloc (.cells #[.int .i64 x.acc, .int .i64 x.ast] 33)).alloc (.cells #[.int .i64 y.acc, .int .i64 y.ast] 33) = X := ⟨_, rfl⟩
  have hbx2 : Blk V W.heap.size 33 #[.int .i64 x.acc, .int .i64 x.ast] := hV ▸ hbx.below ((Below.refl _ _).alloc (Nat.le_refl _) _) hbx.lt
  have hs : (W.alloc (.cells #[.int .i64 x.acc, .int .i64 x.ast] 33)).heap.size = W.heap.size + 1 := by simp
  rw [hs, hV] at hby
  obtain ⟨g, hg⟩ : ∃ g, W.heap.size = g := ⟨_, rfl⟩
  rw [hg] at hbx2 hby
  have x0 : V.cell? ⟨g, 0, none⟩ = some (.int .i64 x.acc) := hbx2.cell 0
  have x1 : V.cell? ⟨g, 1, none⟩ = some (.int .i64 x.ast) := hbx2.cell 1
  have y0 : V.cell? ⟨g + 1, 0, none⟩ = some (.int .i64 y.acc) := hby.cell 0
  have y1 : V.cell? ⟨g + 1, 1, none⟩ = some (.int .i64 y.ast) := hby.cell 1
  have hcmp : ∀ a b n, Calls Tryz.prog 46 #[.int .i64 a, .int .i64 b] (V.drewN n) fun e w'' => e = .returned (.int .i64 (cmpI a b)) ∧ ∃ m, w'' = V.drewN m := fun a b n => (compare_calls a b _).mono (fun _ _ h => ⟨h.1, n, h.2⟩)
  obtain ⟨c1, hc1⟩ : ∃ c, cmpI x.acc y.acc = c := ⟨_, rfl⟩
  obtain ⟨c2, hc2⟩ : ∃ c, cmpI x.ast y.ast = c := ⟨_, rfl⟩
  have hk : cmpK x y = if c1 = 0 then c2 else c1 := by unfold cmpK; rw [hc1, hc2]
  have hcA := fun n => hcmp x.acc y.acc n
  have hcB := fun n => hcmp x.ast y.ast n
  simp only [hc1] at hcA
  simp only [hc2] at hcB
  have hor : ∀ n, Calls Tryz.prog 45 #[.slice (some ⟨(V.drewN n).heap.size, 0, none⟩) 2 2] ((V.drewN n).alloc (.cells #[.int .i64 c1, .int .i64 c2] 3)) fun e w' => e = .returned (.int .i64 (if c1 = 0 then c2 else c1)) ∧ w' = (V.drewN n).alloc (.cells #[.int .i64 c1, .int .i64 c2] 3) := fun n => by
    have hb := Blk.new (V.drewN n) 3 #[.int .i64 c1, .int .i64 c2]
    exact or2_calls c1 c2 _ 2 _ (hb.cell 0) (hb.cell 1)
  rw [← hk] at hor
  obtain ⟨r, hr⟩ : ∃ r, cmpK x y = r := ⟨_, rfl⟩
  rw [hr]
  simp only [hr] at hor
  have hfin : ∀ n, ∃ q os', (V.drewN n).alloc (.cells #[.int .i64 c1, .int .i64 c2] 3) = Go.Sort.grow (W.drewN q) os' := fun n => ⟨n, _, by rw [← hV]; exact grow3 W n _ _ _⟩
  have HCA := Lib.hid hcA
  have HCB := Lib.hid hcB
  have HOR := Lib.hid hor
  have HF := Lib.hid hfin
  have HV := Lib.hid hV
  have HG := Lib.hid hg
  clear hbx hby hbx2 hs hcmp hc1 hc2 hk hcA hcB hor hr hfin hV hg
  go_enter Tryz.func44, Tryz.ntmps44
  go_wp2_with (fail)
  rw [HV.out, HG.out]
  refine region_dtail 10 (by kernel_rfl) (by kernel_rfl) ?_
  simp only [List.take_succ_cons, List.take_zero, List.drop_succ_cons, List.drop_zero]
  repeat go_big_quiet_step ((go_at_call 46; first | (with_reducible exact HCA.out _) | (with_reducible exact HCB.out _)))
  refine wpQuiet_nil ?_
  rintro _ ⟨nq, rfl⟩
  go_wp2_with (fail)
  refine (HOR.out nq).mono ?_
  rintro e w' ⟨rfl, rfl⟩
  go_wp2
  go_ret
  exact ⟨rfl, HF.out nq⟩
end Go.Proofs.YtflkddllofeiaaaGreatDoor
