/- custodylaw11's number by a contract (printed by gen_num11.py). -/
import Derived.Test.YtflkddllofeiaaaGreatDoorIb
import Derived.Deep.RegionHeld3
namespace Go.Proofs.YtflkddllofeiaaaGreatDoor
open Go.RowKit Go.MapKept Go.ChangeMaps Go.Maps
set_option linter.unusedVariables false
set_option linter.unusedSimpArgs false

structure NumS (w w' : World) (u u' : NI.StV) (A' : AbS) : Prop where
  at_ : NI.StAt w' u'
  sim : SimI u' A'
  ep : u'.p = u.p
  but : But w w' u.of
  new : ∀ i, u'.of i → u.of i ∨ w.heap.size ≤ i
def NumQ (w : World) (u : NI.StV) (A : AbS) (c : CallV) (e : Ending) (w' : World) : Prop := ∃ u', e = .returned (.bool true) ∧ NumS w w' u u' (stepA A c)
theorem SimI.same {u : NI.StV} {A : AbS} (h : SimI u A) {c : CallV} (hk : c.kind = 1 ∨ c.kind = 2 ∨ c.kind = 6 ∨ c.kind = 8) : SimI u (stepA A c) := by
  have e : stepA A c = A := by unfold stepA; rw [if_neg (by omega), if_neg (by omega), if_neg (by omega), if_neg (by omega)]
  rw [e]; exact h
theorem num_end {w W wx : World} {u u' : NI.StV} {A' : AbS} (hb : Below w.heap.size w W) (h : NI.StAt wx u') (hs : SimI u' A') (ep : u'.p = u.p) (hx : But W wx u.of) (hn : ∀ i, u'.of i → u.of i ∨ W.heap.size ≤ i) : NumS w wx u u' A' :=
  ⟨h, hs, ep, (But.of_below hb u.of).trans hx (fun _ _ h => h), fun i hi => (hn i hi).imp (fun h => h) (Nat.le_trans hb.size)⟩
set_option maxRecDepth 100000 in
set_option maxHeartbeats 4000000 in
theorem num_k1 (u : NI.StV) (A : AbS) (m ns : Nat) (on : Int) (key : Key) (n : Int) (v0 : ByteArray) (c : CallV) (hce : c = ⟨on, 1, key, n, v0⟩) (w : World) (h : NI.StAt w u) (hsim : SimI u A) (hb : BndA A m) (hm : m ≤ 4000000000000) (hwf : wfI c.n) (hG : HG w) (hgs : ∀ i, u.of i → 0 < i) :
    Calls Tryz.prog 23 #[.pointer (some ⟨u.p, 0, none⟩), .agg c.cs.toArray, .agg (ansA A ns c).cs.toArray] w (NumQ w u A c) := by
  have hk : c.kind = 1 := by rw [hce]
  have hkey : c.key = key := by rw [hce]
  have hcn : c.n = n := by rw [hce]
  have hcv : c.v = v0 := by rw [hce]
  have hold : ∀ i, u.of i → i < w.heap.size := fun i hi => h.lt hi
  have hans : ansA A ns c = ⟨atV (getR A.rows key) n, 0, decide (0 < leN (getR A.rows key) n)⟩ := by unfold ansA; rw [hk, hkey, hcn]; rfl
  have hgr := hsim.getR hb.nd key
  obtain ⟨v, hv'⟩ : ∃ v, atV (getR A.rows key) n = v := ⟨_, rfl⟩
  obtain ⟨b, hb'⟩ : ∃ b, decide (0 < leN (getR A.rows key) n) = b := ⟨_, rfl⟩
  rw [hv', hb'] at hans
  have hcs : c.cs.toArray = #[.int .i64 on, .int .i64 (1), .int .i64 key.acc, .int .i64 key.ast, .int .i64 n, .string v0] := by rw [hce]; rfl
  have hxs : (SaidV.cs ⟨v, 0, b⟩).toArray = #[.string v, .int .i64 (0), .bool b] := rfl
  rw [hans, hcs, hxs]
  obtain ⟨g, hg⟩ : ∃ g, w.heap.size = g := ⟨_, rfl⟩
  obtain ⟨W1, hW1⟩ : ∃ X, w.alloc (.cells #[.int .i64 on, .int .i64 (1), .int .i64 key.acc, .int .i64 key.ast, .int .i64 n, .string v0] 35) = X := ⟨_, rfl⟩
  obtain ⟨W2, hW2⟩ : ∃ X, W1.alloc (.cells #[.string v, .int .i64 (0), .bool b] 37) = X := ⟨_, rfl⟩
  have hs1 : W1.heap.size = g + 1 := by rw [← hW1, ← hg]; simp
  have hs2 : W2.heap.size = g + 2 := by rw [← hW2]; simp; omega
  have hb1 : Below w.heap.size w W1 := hW1 ▸ (Below.refl _ _).alloc (Nat.le_refl _) _
  have hb2 : Below W1.heap.size W1 W2 := hW2 ▸ (Below.refl _ _).alloc (Nat.le_refl _) _
  have hbt : Below w.heap.size w W2 := hb1.trans (hb2.mono hb1.size)
  have pc0 : Blk W1 g 35 #[.int .i64 on, .int .i64 (1), .int .i64 key.acc, .int .i64 key.ast, .int .i64 n, .string v0] := by rw [← hW1, ← hg]; exact Blk.new _ _ _
  have pc := pc0.below hb2 pc0.lt
  have pr : Blk W2 (g + 1) 37 #[.string v, .int .i64 (0), .bool b] := by rw [← hW2, ← hs1]; exact Blk.new _ _ _
  have h2 : NI.StAt W2 u := h.below (hbt)
  have hne : ∀ i, u.of i → i ≠ g ∧ i ≠ g + 1 := fun i hi => by have := hold i hi; omega
  have hall : ∀ w', But W2 w' u.of → w'.cell? ⟨g, 2, none⟩ = some (.int .i64 key.acc) ∧ w'.cell? ⟨g, 3, none⟩ = some (.int .i64 key.ast) ∧ w'.cell? ⟨g, 4, none⟩ = some (.int .i64 n) ∧ w'.cell? ⟨g, 5, none⟩ = some (.string v0) ∧ w'.cell? ⟨g + 1, 0, none⟩ = some (.string v) ∧ w'.cell? ⟨g + 1, 1, none⟩ = some (.int .i64 (0)) ∧ w'.cell? ⟨g + 1, 2, none⟩ = some (.bool b) := by
    intro w' hbw
    have hbw2 : But W2 w' u.of := hbw
    have p1 := pc.but hbw2 (fun hi => (hne _ hi).1 rfl)
    have p2 := pr.but hbw2 (fun hi => (hne _ hi).2 rfl)
    exact ⟨p1.cell 2, p1.cell 3, p1.cell 4, p1.cell 5, p2.cell 0, p2.cell 1, p2.cell 2⟩
  have c1 : W2.cell? ⟨g, 1, none⟩ = some (.int .i64 (1)) := pc.cell 1
  have c2 : W2.cell? ⟨g, 2, none⟩ = some (.int .i64 key.acc) := pc.cell 2
  have c3 : W2.cell? ⟨g, 3, none⟩ = some (.int .i64 key.ast) := pc.cell 3
  have c4 : W2.cell? ⟨g, 4, none⟩ = some (.int .i64 n) := pc.cell 4
  have d0 : W2.cell? ⟨g + 1, 0, none⟩ = some (.string v) := pr.cell 0
  have d2 : W2.cell? ⟨g + 1, 2, none⟩ = some (.bool b) := pr.cell 2
  have hcall := NI.atS_calls u key n W2 h2
  rw [hgr, mapI_atV, mapI_leN, hv', hb'] at hcall
  clear hgr hv' hb'
  have HALL := Lib.hid hall
  have HBT : Hid (Below w.heap.size w W2) := Lib.hid (hbt)
  have HSIM := Lib.hid hsim
  have HCALL := Lib.hid hcall
  have HX2 := Lib.hid h2
  have HND := Lib.hid hb.nd
  have HCE : Hid (c.kind = 1 ∧ c.key = key ∧ c.n = n ∧ c.v = v0) := Lib.hid ⟨hk, hkey, hcn, hcv⟩
  have HW1 := Lib.hid hW1
  have HW2 := Lib.hid hW2
  have HW := Lib.hid hg
  have HG2 : Hid (HG W2) := Lib.hid (hG.below (hbt))
  have HGS := Lib.hid hgs
  clear hall hbt hsim hb hcall h2 hold hne hG hW1 hW2 hs1 hs2 hb1 hb2 pc0 pc pr hg h hwf hk hkey hcn hcv hcs hxs hans hce hgs
  go_enter Tryz.func23, Tryz.ntmps23
  go_wp2_with (fail)
  rw [HW1.out, HW2.out, HW.out]
  go_wp2_with (fail)
  refine HCALL.out.mono ?_
  rintro e wx ⟨rfl, hbx⟩
  have c2wx := (HALL.out wx (But.of_below hbx u.of)).1; have c3wx := (HALL.out wx (But.of_below hbx u.of)).2.1; have c4wx := (HALL.out wx (But.of_below hbx u.of)).2.2.1; have d0wx := (HALL.out wx (But.of_below hbx u.of)).2.2.2.2.1; have d2wx := (HALL.out wx (But.of_below hbx u.of)).2.2.2.2.2.2
  have HBX := Lib.hid hbx
  clear hbx
  go_wp2_with (fail)
  go_ret
  exact ⟨u, by simp, num_end HBT.out (HX2.out.below HBX.out) (HSIM.out.same (by rw [HCE.out.1]; decide)) rfl (But.of_below HBX.out _) (fun i hi => .inl hi)⟩
set_option maxRecDepth 100000 in
set_option maxHeartbeats 4000000 in
theorem num_k2 (u : NI.StV) (A : AbS) (m ns : Nat) (on : Int) (key : Key) (n : Int) (v0 : ByteArray) (c : CallV) (hce : c = ⟨on, 2, key, n, v0⟩) (w : World) (h : NI.StAt w u) (hsim : SimI u A) (hb : BndA A m) (hm : m ≤ 4000000000000) (hwf : wfI c.n) (hG : HG w) (hgs : ∀ i, u.of i → 0 < i) :
    Calls Tryz.prog 23 #[.pointer (some ⟨u.p, 0, none⟩), .agg c.cs.toArray, .agg (ansA A ns c).cs.toArray] w (NumQ w u A c) := by
  have hk : c.kind = 2 := by rw [hce]
  have hkey : c.key = key := by rw [hce]
  have hcn : c.n = n := by rw [hce]
  have hcv : c.v = v0 := by rw [hce]
  have hold : ∀ i, u.of i → i < w.heap.size := fun i hi => h.lt hi
  have hans : ansA A ns c = ⟨lastV (getR A.rows key), lastM (getR A.rows key), decide (0 < (getR A.rows key).length)⟩ := by unfold ansA; rw [hk, hkey]; rfl
  have hgr := hsim.getR hb.nd key
  obtain ⟨v, hv'⟩ : ∃ v, lastV (getR A.rows key) = v := ⟨_, rfl⟩
  obtain ⟨q, hq'⟩ : ∃ q, lastM (getR A.rows key) = q := ⟨_, rfl⟩
  obtain ⟨b, hb'⟩ : ∃ b, decide (0 < (getR A.rows key).length) = b := ⟨_, rfl⟩
  rw [hv', hq', hb'] at hans
  have hcs : c.cs.toArray = #[.int .i64 on, .int .i64 (2), .int .i64 key.acc, .int .i64 key.ast, .int .i64 n, .string v0] := by rw [hce]; rfl
  have hxs : (SaidV.cs ⟨v, q, b⟩).toArray = #[.string v, .int .i64 (q), .bool b] := rfl
  rw [hans, hcs, hxs]
  obtain ⟨g, hg⟩ : ∃ g, w.heap.size = g := ⟨_, rfl⟩
  obtain ⟨W1, hW1⟩ : ∃ X, w.alloc (.cells #[.int .i64 on, .int .i64 (2), .int .i64 key.acc, .int .i64 key.ast, .int .i64 n, .string v0] 35) = X := ⟨_, rfl⟩
  obtain ⟨W2, hW2⟩ : ∃ X, W1.alloc (.cells #[.string v, .int .i64 (q), .bool b] 37) = X := ⟨_, rfl⟩
  have hs1 : W1.heap.size = g + 1 := by rw [← hW1, ← hg]; simp
  have hs2 : W2.heap.size = g + 2 := by rw [← hW2]; simp; omega
  have hb1 : Below w.heap.size w W1 := hW1 ▸ (Below.refl _ _).alloc (Nat.le_refl _) _
  have hb2 : Below W1.heap.size W1 W2 := hW2 ▸ (Below.refl _ _).alloc (Nat.le_refl _) _
  have hbt : Below w.heap.size w W2 := hb1.trans (hb2.mono hb1.size)
  have pc0 : Blk W1 g 35 #[.int .i64 on, .int .i64 (2), .int .i64 key.acc, .int .i64 key.ast, .int .i64 n, .string v0] := by rw [← hW1, ← hg]; exact Blk.new _ _ _
  have pc := pc0.below hb2 pc0.lt
  have pr : Blk W2 (g + 1) 37 #[.string v, .int .i64 (q), .bool b] := by rw [← hW2, ← hs1]; exact Blk.new _ _ _
  have h2 : NI.StAt W2 u := h.below (hbt)
  have hne : ∀ i, u.of i → i ≠ g ∧ i ≠ g + 1 := fun i hi => by have := hold i hi; omega
  have hall : ∀ w', But W2 w' u.of → w'.cell? ⟨g, 2, none⟩ = some (.int .i64 key.acc) ∧ w'.cell? ⟨g, 3, none⟩ = some (.int .i64 key.ast) ∧ w'.cell? ⟨g, 4, none⟩ = some (.int .i64 n) ∧ w'.cell? ⟨g, 5, none⟩ = some (.string v0) ∧ w'.cell? ⟨g + 1, 0, none⟩ = some (.string v) ∧ w'.cell? ⟨g + 1, 1, none⟩ = some (.int .i64 (q)) ∧ w'.cell? ⟨g + 1, 2, none⟩ = some (.bool b) := by
    intro w' hbw
    have hbw2 : But W2 w' u.of := hbw
    have p1 := pc.but hbw2 (fun hi => (hne _ hi).1 rfl)
    have p2 := pr.but hbw2 (fun hi => (hne _ hi).2 rfl)
    exact ⟨p1.cell 2, p1.cell 3, p1.cell 4, p1.cell 5, p2.cell 0, p2.cell 1, p2.cell 2⟩
  have c1 : W2.cell? ⟨g, 1, none⟩ = some (.int .i64 (2)) := pc.cell 1
  have c2 : W2.cell? ⟨g, 2, none⟩ = some (.int .i64 key.acc) := pc.cell 2
  have c3 : W2.cell? ⟨g, 3, none⟩ = some (.int .i64 key.ast) := pc.cell 3
  have d0 : W2.cell? ⟨g + 1, 0, none⟩ = some (.string v) := pr.cell 0
  have d1 : W2.cell? ⟨g + 1, 1, none⟩ = some (.int .i64 (q)) := pr.cell 1
  have d2 : W2.cell? ⟨g + 1, 2, none⟩ = some (.bool b) := pr.cell 2
  have hcall := NI.lastS_calls u key W2 h2
  rw [hgr, mapI_lastV, mapI_lastM, mapI_len, hv', hq', hb'] at hcall
  clear hgr hv' hq' hb'
  have HALL := Lib.hid hall
  have HBT : Hid (Below w.heap.size w W2) := Lib.hid (hbt)
  have HSIM := Lib.hid hsim
  have HCALL := Lib.hid hcall
  have HX2 := Lib.hid h2
  have HND := Lib.hid hb.nd
  have HCE : Hid (c.kind = 2 ∧ c.key = key ∧ c.n = n ∧ c.v = v0) := Lib.hid ⟨hk, hkey, hcn, hcv⟩
  have HW1 := Lib.hid hW1
  have HW2 := Lib.hid hW2
  have HW := Lib.hid hg
  have HG2 : Hid (HG W2) := Lib.hid (hG.below (hbt))
  have HGS := Lib.hid hgs
  clear hall hbt hsim hb hcall h2 hold hne hG hW1 hW2 hs1 hs2 hb1 hb2 pc0 pc pr hg h hwf hk hkey hcn hcv hcs hxs hans hce hgs
  go_enter Tryz.func23, Tryz.ntmps23
  go_wp2_with (fail)
  rw [HW1.out, HW2.out, HW.out]
  go_wp2_with (fail)
  refine HCALL.out.mono ?_
  rintro e wx ⟨rfl, hbx⟩
  have c2wx := (HALL.out wx (But.of_below hbx u.of)).1; have c3wx := (HALL.out wx (But.of_below hbx u.of)).2.1; have d0wx := (HALL.out wx (But.of_below hbx u.of)).2.2.2.2.1; have d1wx := (HALL.out wx (But.of_below hbx u.of)).2.2.2.2.2.1; have d2wx := (HALL.out wx (But.of_below hbx u.of)).2.2.2.2.2.2
  have HBX := Lib.hid hbx
  clear hbx
  go_wp2_with (fail)
  go_ret
  exact ⟨u, by simp, num_end HBT.out (HX2.out.below HBX.out) (HSIM.out.same (by rw [HCE.out.1]; decide)) rfl (But.of_below HBX.out _) (fun i hi => .inl hi)⟩
set_option maxRecDepth 100000 in
set_option maxHeartbeats 4000000 in
theorem num_k0 (u : NI.StV) (A : AbS) (m ns : Nat) (on : Int) (key : Key) (n : Int) (v0 : ByteArray) (c : CallV) (hce : c = ⟨on, 0, key, n, v0⟩) (w : World) (h : NI.StAt w u) (hsim : SimI u A) (hb : BndA A m) (hm : m ≤ 4000000000000) (hwf : wfI c.n) (hG : HG w) (hgs : ∀ i, u.of i → 0 < i) :
    Calls Tryz.prog 23 #[.pointer (some ⟨u.p, 0, none⟩), .agg c.cs.toArray, .agg (ansA A ns c).cs.toArray] w (NumQ w u A c) := by
  have hk : c.kind = 0 := by rw [hce]
  have hkey : c.key = key := by rw [hce]
  have hcn : c.n = n := by rw [hce]
  have hcv : c.v = v0 := by rw [hce]
  have hold : ∀ i, u.of i → i < w.heap.size := fun i hi => h.lt hi
  have hans : ansA A ns c = ⟨⟨#[]⟩, putE (getR A.rows key) n, true⟩ := by unfold ansA; rw [hk, hkey, hcn]; rfl
  have hgr := hsim.getR hb.nd key
  obtain ⟨pe, hpe⟩ : ∃ pe, putE (getR A.rows key) n = pe := ⟨_, rfl⟩
  have hp01 : 0 ≤ pe ∧ pe ≤ 24 := by rw [← hpe]; unfold putE; split <;> omega
  have HP01 := Lib.hid hp01
  rw [hpe] at hans
  have hcs : c.cs.toArray = #[.int .i64 on, .int .i64 (0), .int .i64 key.acc, .int .i64 key.ast, .int .i64 n, .string v0] := by rw [hce]; rfl
  have hxs : (SaidV.cs ⟨⟨#[]⟩, pe, true⟩).toArray = #[.string ⟨#[]⟩, .int .i64 (pe), .bool true] := rfl
  rw [hans, hcs, hxs]
  obtain ⟨g, hg⟩ : ∃ g, w.heap.size = g := ⟨_, rfl⟩
  obtain ⟨W1, hW1⟩ : ∃ X, w.alloc (.cells #[.int .i64 on, .int .i64 (0), .int .i64 key.acc, .int .i64 key.ast, .int .i64 n, .string v0] 35) = X := ⟨_, rfl⟩
  obtain ⟨W2, hW2⟩ : ∃ X, W1.alloc (.cells #[.string ⟨#[]⟩, .int .i64 (pe), .bool true] 37) = X := ⟨_, rfl⟩
  have hs1 : W1.heap.size = g + 1 := by rw [← hW1, ← hg]; simp
  have hs2 : W2.heap.size = g + 2 := by rw [← hW2]; simp; omega
  have hb1 : Below w.heap.size w W1 := hW1 ▸ (Below.refl _ _).alloc (Nat.le_refl _) _
  have hb2 : Below W1.heap.size W1 W2 := hW2 ▸ (Below.refl _ _).alloc (Nat.le_refl _) _
  have hbt : Below w.heap.size w W2 := hb1.trans (hb2.mono hb1.size)
  have pc0 : Blk W1 g 35 #[.int .i64 on, .int .i64 (0), .int .i64 key.acc, .int .i64 key.ast, .int .i64 n, .string v0] := by rw [← hW1, ← hg]; exact Blk.new _ _ _
  have pc := pc0.below hb2 pc0.lt
  have pr : Blk W2 (g + 1) 37 #[.string ⟨#[]⟩, .int .i64 (pe), .bool true] := by rw [← hW2, ← hs1]; exact Blk.new _ _ _
  have h2 : NI.StAt W2.drew u := h.below (hbt.drew)
  have hne : ∀ i, u.of i → i ≠ g ∧ i ≠ g + 1 := fun i hi => by have := hold i hi; omega
  have hall : ∀ w', But W2.drew w' u.of → w'.cell? ⟨g, 2, none⟩ = some (.int .i64 key.acc) ∧ w'.cell? ⟨g, 3, none⟩ = some (.int .i64 key.ast) ∧ w'.cell? ⟨g, 4, none⟩ = some (.int .i64 n) ∧ w'.cell? ⟨g, 5, none⟩ = some (.string v0) ∧ w'.cell? ⟨g + 1, 0, none⟩ = some (.string ⟨#[]⟩) ∧ w'.cell? ⟨g + 1, 1, none⟩ = some (.int .i64 (pe)) ∧ w'.cell? ⟨g + 1, 2, none⟩ = some (.bool true) := by
    intro w' hbw
    have hbw2 : But W2 w' u.of := ((But.of_below ((Below.refl _ _).drew) u.of).trans hbw (fun _ _ h => h))
    have p1 := pc.but hbw2 (fun hi => (hne _ hi).1 rfl)
    have p2 := pr.but hbw2 (fun hi => (hne _ hi).2 rfl)
    exact ⟨p1.cell 2, p1.cell 3, p1.cell 4, p1.cell 5, p2.cell 0, p2.cell 1, p2.cell 2⟩
  have c1 : W2.cell? ⟨g, 1, none⟩ = some (.int .i64 (0)) := pc.cell 1
  have c2 : W2.cell? ⟨g, 2, none⟩ = some (.int .i64 key.acc) := pc.cell 2
  have c3 : W2.cell? ⟨g, 3, none⟩ = some (.int .i64 key.ast) := pc.cell 3
  have c4 : W2.cell? ⟨g, 4, none⟩ = some (.int .i64 n) := pc.cell 4
  have c5 : W2.cell? ⟨g, 5, none⟩ = some (.string v0) := pc.cell 5
  have d1 : W2.cell? ⟨g + 1, 1, none⟩ = some (.int .i64 (pe)) := pr.cell 1
  have hcall := NI.putS_calls u key n (v0.size : Int) W2.drew h2 (by rw [hgr, mapI_len]; have := getR_le hb.nd key; have := hb.t; omega)
  unfold NI.PutSQ at hcall
  rw [hgr, mapI_putE, hpe] at hcall
  clear hgr hpe hp01
  have HALL := Lib.hid hall
  have HBT : Hid (Below w.heap.size w W2.drew) := Lib.hid (hbt.drew)
  have HSIM := Lib.hid hsim
  have HCALL := Lib.hid hcall
  have HX2 := Lib.hid h2
  have HND := Lib.hid hb.nd
  have HCE : Hid (c.kind = 0 ∧ c.key = key ∧ c.n = n ∧ c.v = v0) := Lib.hid ⟨hk, hkey, hcn, hcv⟩
  have HW1 := Lib.hid hW1
  have HW2 := Lib.hid hW2
  have HW := Lib.hid hg
  have HG2 : Hid (HG W2.drew) := Lib.hid (hG.below (hbt.drew))
  have HGS := Lib.hid hgs
  clear hall hbt hsim hb hcall h2 hold hne hG hW1 hW2 hs1 hs2 hb1 hb2 pc0 pc pr hg h hwf hk hkey hcn hcv hcs hxs hans hce hgs
  go_enter Tryz.func23, Tryz.ntmps23
  go_wp2_with (fail)
  rw [HW1.out, HW2.out, HW.out]
  go_wp2_with (fail)
  go_region_held3 (fun w' => w'.cell? ⟨g, 2, none⟩ = some (.int .i64 key.acc) ∧ w'.cell? ⟨g, 3, none⟩ = some (.int .i64 key.ast) ∧ w'.cell? ⟨g, 4, none⟩ = some (.int .i64 n) ∧ w'.cell? ⟨g, 5, none⟩ = some (.string v0) ∧ w'.cell? ⟨g + 1, 1, none⟩ = some (.int .i64 (pe)))
    (first | go_keep | fail)
    (first
      | (go_at_call 56; refine HCALL.out.mono ?_; rintro e wx ⟨u', rfl, hq⟩; have c2wx := (HALL.out wx (hq.but)).1; have c3wx := (HALL.out wx (hq.but)).2.1; have c4wx := (HALL.out wx (hq.but)).2.2.1; have c5wx := (HALL.out wx (hq.but)).2.2.2.1; have d1wx := (HALL.out wx (hq.but)).2.2.2.2.2.1; have hnum := num_errV pe wx HP01.out.1 HP01.out.2; have HNUM := Lib.hid hnum; have HQ := Lib.hid hq; clear hq hnum)
      | (go_at_call 30; refine HNUM.out.mono ?_; rintro e wy ⟨rfl, rfl⟩; clear HNUM))
  go_wp2_with (fail)
  go_ret
  exact ⟨u', by simp, num_end HBT.out HQ.out.at_ (HSIM.out.put HND.out HCE.out.1 (by rw [HCE.out.2.1, HCE.out.2.2.1, HCE.out.2.2.2]; exact HQ.out)) HQ.out.ep HQ.out.but HQ.out.new⟩
set_option maxRecDepth 100000 in
set_option maxHeartbeats 4000000 in
theorem num_k4 (u : NI.StV) (A : AbS) (m ns : Nat) (on : Int) (key : Key) (n : Int) (v0 : ByteArray) (c : CallV) (hce : c = ⟨on, 4, key, n, v0⟩) (w : World) (h : NI.StAt w u) (hsim : SimI u A) (hb : BndA A m) (hm : m ≤ 4000000000000) (hwf : wfI c.n) (hG : HG w) (hgs : ∀ i, u.of i → 0 < i) :
    Calls Tryz.prog 23 #[.pointer (some ⟨u.p, 0, none⟩), .agg c.cs.toArray, .agg (ansA A ns c).cs.toArray] w (NumQ w u A c) := by
  have hk : c.kind = 4 := by rw [hce]
  have hkey : c.key = key := by rw [hce]
  have hcn : c.n = n := by rw [hce]
  have hcv : c.v = v0 := by rw [hce]
  have hold : ∀ i, u.of i → i < w.heap.size := fun i hi => h.lt hi
  have hans : ansA A ns c = ⟨⟨#[]⟩, (A.bg : Int) + 1, false⟩ := by unfold ansA; rw [hk]; rfl
  obtain ⟨q, hq'⟩ : ∃ q, (A.bg : Int) + 1 = q := ⟨_, rfl⟩
  rw [hq'] at hans
  have hcs : c.cs.toArray = #[.int .i64 on, .int .i64 (4), .int .i64 key.acc, .int .i64 key.ast, .int .i64 n, .string v0] := by rw [hce]; rfl
  have hxs : (SaidV.cs ⟨⟨#[]⟩, q, false⟩).toArray = #[.string ⟨#[]⟩, .int .i64 (q), .bool false] := rfl
  rw [hans, hcs, hxs]
  obtain ⟨g, hg⟩ : ∃ g, w.heap.size = g := ⟨_, rfl⟩
  obtain ⟨W1, hW1⟩ : ∃ X, w.alloc (.cells #[.int .i64 on, .int .i64 (4), .int .i64 key.acc, .int .i64 key.ast, .int .i64 n, .string v0] 35) = X := ⟨_, rfl⟩
  obtain ⟨W2, hW2⟩ : ∃ X, W1.alloc (.cells #[.string ⟨#[]⟩, .int .i64 (q), .bool false] 37) = X := ⟨_, rfl⟩
  have hs1 : W1.heap.size = g + 1 := by rw [← hW1, ← hg]; simp
  have hs2 : W2.heap.size = g + 2 := by rw [← hW2]; simp; omega
  have hb1 : Below w.heap.size w W1 := hW1 ▸ (Below.refl _ _).alloc (Nat.le_refl _) _
  have hb2 : Below W1.heap.size W1 W2 := hW2 ▸ (Below.refl _ _).alloc (Nat.le_refl _) _
  have hbt : Below w.heap.size w W2 := hb1.trans (hb2.mono hb1.size)
  have pc0 : Blk W1 g 35 #[.int .i64 on, .int .i64 (4), .int .i64 key.acc, .int .i64 key.ast, .int .i64 n, .string v0] := by rw [← hW1, ← hg]; exact Blk.new _ _ _
  have pc := pc0.below hb2 pc0.lt
  have pr : Blk W2 (g + 1) 37 #[.string ⟨#[]⟩, .int .i64 (q), .bool false] := by rw [← hW2, ← hs1]; exact Blk.new _ _ _
  have h2 : NI.StAt W2.drew u := h.below (hbt.drew)
  have hne : ∀ i, u.of i → i ≠ g ∧ i ≠ g + 1 := fun i hi => by have := hold i hi; omega
  have hall : ∀ w', But W2.drew w' u.of → w'.cell? ⟨g, 2, none⟩ = some (.int .i64 key.acc) ∧ w'.cell? ⟨g, 3, none⟩ = some (.int .i64 key.ast) ∧ w'.cell? ⟨g, 4, none⟩ = some (.int .i64 n) ∧ w'.cell? ⟨g, 5, none⟩ = some (.string v0) ∧ w'.cell? ⟨g + 1, 0, none⟩ = some (.string ⟨#[]⟩) ∧ w'.cell? ⟨g + 1, 1, none⟩ = some (.int .i64 (q)) ∧ w'.cell? ⟨g + 1, 2, none⟩ = some (.bool false) := by
    intro w' hbw
    have hbw2 : But W2 w' u.of := ((But.of_below ((Below.refl _ _).drew) u.of).trans hbw (fun _ _ h => h))
    have p1 := pc.but hbw2 (fun hi => (hne _ hi).1 rfl)
    have p2 := pr.but hbw2 (fun hi => (hne _ hi).2 rfl)
    exact ⟨p1.cell 2, p1.cell 3, p1.cell 4, p1.cell 5, p2.cell 0, p2.cell 1, p2.cell 2⟩
  have c1 : W2.cell? ⟨g, 1, none⟩ = some (.int .i64 (4)) := pc.cell 1
  have c4 : W2.cell? ⟨g, 4, none⟩ = some (.int .i64 n) := pc.cell 4
  have d1 : W2.cell? ⟨g + 1, 1, none⟩ = some (.int .i64 (q)) := pr.cell 1
  have hcall := NI.openS_calls u n W2.drew h2 (by rw [hsim.bg]; have := hb.b; omega)
  unfold NI.OpenSQ at hcall
  have hub := hsim.bg
  rw [show ((u.bg : Nat) : Int) + 1 = q from by rw [hub]; exact hq'] at hcall
  have HUB : Hid ((u.bg : Int) + 1 = q) := Lib.hid (by rw [hub]; exact hq')
  clear hq' hub
  have HALL := Lib.hid hall
  have HBT : Hid (Below w.heap.size w W2.drew) := Lib.hid (hbt.drew)
  have HSIM := Lib.hid hsim
  have HCALL := Lib.hid hcall
  have HX2 := Lib.hid h2
  have HND := Lib.hid hb.nd
  have HCE : Hid (c.kind = 4 ∧ c.key = key ∧ c.n = n ∧ c.v = v0) := Lib.hid ⟨hk, hkey, hcn, hcv⟩
  have HW1 := Lib.hid hW1
  have HW2 := Lib.hid hW2
  have HW := Lib.hid hg
  have HG2 : Hid (HG W2.drew) := Lib.hid (hG.below (hbt.drew))
  have HGS := Lib.hid hgs
  clear hall hbt hsim hb hcall h2 hold hne hG hW1 hW2 hs1 hs2 hb1 hb2 pc0 pc pr hg h hwf hk hkey hcn hcv hcs hxs hans hce hgs
  go_enter Tryz.func23, Tryz.ntmps23
  go_wp2_with (fail)
  rw [HW1.out, HW2.out, HW.out]
  go_wp2_with (fail)
  go_region_held3 (fun w' => w'.cell? ⟨g, 4, none⟩ = some (.int .i64 n) ∧ w'.cell? ⟨g + 1, 1, none⟩ = some (.int .i64 (q)))
    (first | go_keep | fail)
    ((go_at_call 59; refine HCALL.out.mono ?_; rintro e wx ⟨u', rfl, hq⟩; have c4wx := (HALL.out wx (hq.1.but)).2.2.1; have d1wx := (HALL.out wx (hq.1.but)).2.2.2.2.2.1; have HQ := Lib.hid hq; clear hq))
  go_wp2_with (fail)
  go_ret
  exact ⟨u', by simp, num_end HBT.out HQ.out.1.at_ (HSIM.out.opened HCE.out.1 HQ.out.1 (by rw [HQ.out.2.1, HCE.out.2.2.1, HUB.out]) HQ.out.2.2) HQ.out.1.ep HQ.out.1.but HQ.out.1.new⟩
set_option maxRecDepth 100000 in
set_option maxHeartbeats 4000000 in
theorem num_k5 (u : NI.StV) (A : AbS) (m ns : Nat) (on : Int) (key : Key) (n : Int) (v0 : ByteArray) (c : CallV) (hce : c = ⟨on, 5, key, n, v0⟩) (w : World) (h : NI.StAt w u) (hsim : SimI u A) (hb : BndA A m) (hm : m ≤ 4000000000000) (hwf : wfI c.n) (hG : HG w) (hgs : ∀ i, u.of i → 0 < i) :
    Calls Tryz.prog 23 #[.pointer (some ⟨u.p, 0, none⟩), .agg c.cs.toArray, .agg (ansA A ns c).cs.toArray] w (NumQ w u A c) := by
  have hk : c.kind = 5 := by rw [hce]
  have hkey : c.key = key := by rw [hce]
  have hcn : c.n = n := by rw [hce]
  have hcv : c.v = v0 := by rw [hce]
  have hold : ∀ i, u.of i → i < w.heap.size := fun i hi => h.lt hi
  have hans : ansA A ns c = ⟨⟨#[]⟩, 0, (mget A.R n).isSome⟩ := by unfold ansA; rw [hk, hcn]; rfl
  obtain ⟨b, hb'⟩ : ∃ b, (mget A.R n).isSome = b := ⟨_, rfl⟩
  rw [hb'] at hans
  have hcs : c.cs.toArray = #[.int .i64 on, .int .i64 (5), .int .i64 key.acc, .int .i64 key.ast, .int .i64 n, .string v0] := by rw [hce]; rfl
  have hxs : (SaidV.cs ⟨⟨#[]⟩, 0, b⟩).toArray = #[.string ⟨#[]⟩, .int .i64 (0), .bool b] := rfl
  rw [hans, hcs, hxs]
  obtain ⟨g, hg⟩ : ∃ g, w.heap.size = g := ⟨_, rfl⟩
  obtain ⟨W1, hW1⟩ : ∃ X, w.alloc (.cells #[.int .i64 on, .int .i64 (5), .int .i64 key.acc, .int .i64 key.ast, .int .i64 n, .string v0] 35) = X := ⟨_, rfl⟩
  obtain ⟨W2, hW2⟩ : ∃ X, W1.alloc (.cells #[.string ⟨#[]⟩, .int .i64 (0), .bool b] 37) = X := ⟨_, rfl⟩
  have hs1 : W1.heap.size = g + 1 := by rw [← hW1, ← hg]; simp
  have hs2 : W2.heap.size = g + 2 := by rw [← hW2]; simp; omega
  have hb1 : Below w.heap.size w W1 := hW1 ▸ (Below.refl _ _).alloc (Nat.le_refl _) _
  have hb2 : Below W1.heap.size W1 W2 := hW2 ▸ (Below.refl _ _).alloc (Nat.le_refl _) _
  have hbt : Below w.heap.size w W2 := hb1.trans (hb2.mono hb1.size)
  have pc0 : Blk W1 g 35 #[.int .i64 on, .int .i64 (5), .int .i64 key.acc, .int .i64 key.ast, .int .i64 n, .string v0] := by rw [← hW1, ← hg]; exact Blk.new _ _ _
  have pc := pc0.below hb2 pc0.lt
  have pr : Blk W2 (g + 1) 37 #[.string ⟨#[]⟩, .int .i64 (0), .bool b] := by rw [← hW2, ← hs1]; exact Blk.new _ _ _
  have h2 : NI.StAt W2.drew u := h.below (hbt.drew)
  have hne : ∀ i, u.of i → i ≠ g ∧ i ≠ g + 1 := fun i hi => by have := hold i hi; omega
  have hall : ∀ w', But W2.drew w' u.of → w'.cell? ⟨g, 2, none⟩ = some (.int .i64 key.acc) ∧ w'.cell? ⟨g, 3, none⟩ = some (.int .i64 key.ast) ∧ w'.cell? ⟨g, 4, none⟩ = some (.int .i64 n) ∧ w'.cell? ⟨g, 5, none⟩ = some (.string v0) ∧ w'.cell? ⟨g + 1, 0, none⟩ = some (.string ⟨#[]⟩) ∧ w'.cell? ⟨g + 1, 1, none⟩ = some (.int .i64 (0)) ∧ w'.cell? ⟨g + 1, 2, none⟩ = some (.bool b) := by
    intro w' hbw
    have hbw2 : But W2 w' u.of := ((But.of_below ((Below.refl _ _).drew) u.of).trans hbw (fun _ _ h => h))
    have p1 := pc.but hbw2 (fun hi => (hne _ hi).1 rfl)
    have p2 := pr.but hbw2 (fun hi => (hne _ hi).2 rfl)
    exact ⟨p1.cell 2, p1.cell 3, p1.cell 4, p1.cell 5, p2.cell 0, p2.cell 1, p2.cell 2⟩
  have c1 : W2.cell? ⟨g, 1, none⟩ = some (.int .i64 (5)) := pc.cell 1
  have c4 : W2.cell? ⟨g, 4, none⟩ = some (.int .i64 n) := pc.cell 4
  have d2 : W2.cell? ⟨g + 1, 2, none⟩ = some (.bool b) := pr.cell 2
  have hcall := NI.closeS_calls u n W2.drew h2 (by rw [← hcn]; exact hwf)
  unfold NI.CloseSQ at hcall
  rw [hsim.R, hb'] at hcall
  clear hb'
  have HALL := Lib.hid hall
  have HBT : Hid (Below w.heap.size w W2.drew) := Lib.hid (hbt.drew)
  have HSIM := Lib.hid hsim
  have HCALL := Lib.hid hcall
  have HX2 := Lib.hid h2
  have HND := Lib.hid hb.nd
  have HCE : Hid (c.kind = 5 ∧ c.key = key ∧ c.n = n ∧ c.v = v0) := Lib.hid ⟨hk, hkey, hcn, hcv⟩
  have HW1 := Lib.hid hW1
  have HW2 := Lib.hid hW2
  have HW := Lib.hid hg
  have HG2 : Hid (HG W2.drew) := Lib.hid (hG.below (hbt.drew))
  have HGS := Lib.hid hgs
  clear hall hbt hsim hb hcall h2 hold hne hG hW1 hW2 hs1 hs2 hb1 hb2 pc0 pc pr hg h hwf hk hkey hcn hcv hcs hxs hans hce hgs
  go_enter Tryz.func23, Tryz.ntmps23
  go_wp2_with (fail)
  rw [HW1.out, HW2.out, HW.out]
  go_wp2_with (fail)
  go_region_held3 (fun w' => w'.cell? ⟨g, 4, none⟩ = some (.int .i64 n) ∧ w'.cell? ⟨g + 1, 2, none⟩ = some (.bool b))
    (first | go_keep | fail)
    ((go_at_call 60; refine HCALL.out.mono ?_; rintro e wx ⟨u', rfl, hq⟩; have c4wx := (HALL.out wx (hq.1.but)).2.2.1; have d2wx := (HALL.out wx (hq.1.but)).2.2.2.2.2.2; have HQ := Lib.hid hq; clear hq))
  go_wp2_with (fail)
  go_ret
  exact ⟨u', by simp, num_end HBT.out HQ.out.1.at_ (HSIM.out.closed HCE.out.1 HQ.out.1 (by rw [HQ.out.2.1, HCE.out.2.2.1, HSIM.out.R]) HQ.out.2.2) HQ.out.1.ep HQ.out.1.but HQ.out.1.new⟩
set_option maxRecDepth 100000 in
set_option maxHeartbeats 4000000 in
theorem num_k6 (u : NI.StV) (A : AbS) (m ns : Nat) (on : Int) (key : Key) (n : Int) (v0 : ByteArray) (c : CallV) (hce : c = ⟨on, 6, key, n, v0⟩) (w : World) (h : NI.StAt w u) (hsim : SimI u A) (hb : BndA A m) (hm : m ≤ 4000000000000) (hwf : wfI c.n) (hG : HG w) (hgs : ∀ i, u.of i → 0 < i) :
    Calls Tryz.prog 23 #[.pointer (some ⟨u.p, 0, none⟩), .agg c.cs.toArray, .agg (ansA A ns c).cs.toArray] w (NumQ w u A c) := by
  have hk : c.kind = 6 := by rw [hce]
  have hkey : c.key = key := by rw [hce]
  have hcn : c.n = n := by rw [hce]
  have hcv : c.v = v0 := by rw [hce]
  have hold : ∀ i, u.of i → i < w.heap.size := fun i hi => h.lt hi
  have hans : ansA A ns c = ⟨⟨#[]⟩, minL n A.R, false⟩ := by unfold ansA; rw [hk, hcn]; rfl
  obtain ⟨q, hq'⟩ : ∃ q, minL n A.R = q := ⟨_, rfl⟩
  rw [hq'] at hans
  have hcs : c.cs.toArray = #[.int .i64 on, .int .i64 (6), .int .i64 key.acc, .int .i64 key.ast, .int .i64 n, .string v0] := by rw [hce]; rfl
  have hxs : (SaidV.cs ⟨⟨#[]⟩, q, false⟩).toArray = #[.string ⟨#[]⟩, .int .i64 (q), .bool false] := rfl
  rw [hans, hcs, hxs]
  obtain ⟨g, hg⟩ : ∃ g, w.heap.size = g := ⟨_, rfl⟩
  obtain ⟨W1, hW1⟩ : ∃ X, w.alloc (.cells #[.int .i64 on, .int .i64 (6), .int .i64 key.acc, .int .i64 key.ast, .int .i64 n, .string v0] 35) = X := ⟨_, rfl⟩
  obtain ⟨W2, hW2⟩ : ∃ X, W1.alloc (.cells #[.string ⟨#[]⟩, .int .i64 (q), .bool false] 37) = X := ⟨_, rfl⟩
  have hs1 : W1.heap.size = g + 1 := by rw [← hW1, ← hg]; simp
  have hs2 : W2.heap.size = g + 2 := by rw [← hW2]; simp; omega
  have hb1 : Below w.heap.size w W1 := hW1 ▸ (Below.refl _ _).alloc (Nat.le_refl _) _
  have hb2 : Below W1.heap.size W1 W2 := hW2 ▸ (Below.refl _ _).alloc (Nat.le_refl _) _
  have hbt : Below w.heap.size w W2 := hb1.trans (hb2.mono hb1.size)
  have pc0 : Blk W1 g 35 #[.int .i64 on, .int .i64 (6), .int .i64 key.acc, .int .i64 key.ast, .int .i64 n, .string v0] := by rw [← hW1, ← hg]; exact Blk.new _ _ _
  have pc := pc0.below hb2 pc0.lt
  have pr : Blk W2 (g + 1) 37 #[.string ⟨#[]⟩, .int .i64 (q), .bool false] := by rw [← hW2, ← hs1]; exact Blk.new _ _ _
  have h2 : NI.StAt W2.drew u := h.below (hbt.drew)
  have hne : ∀ i, u.of i → i ≠ g ∧ i ≠ g + 1 := fun i hi => by have := hold i hi; omega
  have hall : ∀ w', But W2.drew w' u.of → w'.cell? ⟨g, 2, none⟩ = some (.int .i64 key.acc) ∧ w'.cell? ⟨g, 3, none⟩ = some (.int .i64 key.ast) ∧ w'.cell? ⟨g, 4, none⟩ = some (.int .i64 n) ∧ w'.cell? ⟨g, 5, none⟩ = some (.string v0) ∧ w'.cell? ⟨g + 1, 0, none⟩ = some (.string ⟨#[]⟩) ∧ w'.cell? ⟨g + 1, 1, none⟩ = some (.int .i64 (q)) ∧ w'.cell? ⟨g + 1, 2, none⟩ = some (.bool false) := by
    intro w' hbw
    have hbw2 : But W2 w' u.of := ((But.of_below ((Below.refl _ _).drew) u.of).trans hbw (fun _ _ h => h))
    have p1 := pc.but hbw2 (fun hi => (hne _ hi).1 rfl)
    have p2 := pr.but hbw2 (fun hi => (hne _ hi).2 rfl)
    exact ⟨p1.cell 2, p1.cell 3, p1.cell 4, p1.cell 5, p2.cell 0, p2.cell 1, p2.cell 2⟩
  have c1 : W2.cell? ⟨g, 1, none⟩ = some (.int .i64 (6)) := pc.cell 1
  have c4 : W2.cell? ⟨g, 4, none⟩ = some (.int .i64 n) := pc.cell 4
  have d1 : W2.cell? ⟨g + 1, 1, none⟩ = some (.int .i64 (q)) := pr.cell 1
  have hcall := NI.oldestS_calls u n W2.drew h2
  rw [hsim.R, hq'] at hcall
  clear hq'
  have HALL := Lib.hid hall
  have HBT : Hid (Below w.heap.size w W2.drew) := Lib.hid (hbt.drew)
  have HSIM := Lib.hid hsim
  have HCALL := Lib.hid hcall
  have HX2 := Lib.hid h2
  have HND := Lib.hid hb.nd
  have HCE : Hid (c.kind = 6 ∧ c.key = key ∧ c.n = n ∧ c.v = v0) := Lib.hid ⟨hk, hkey, hcn, hcv⟩
  have HW1 := Lib.hid hW1
  have HW2 := Lib.hid hW2
  have HW := Lib.hid hg
  have HG2 : Hid (HG W2.drew) := Lib.hid (hG.below (hbt.drew))
  have HGS := Lib.hid hgs
  clear hall hbt hsim hb hcall h2 hold hne hG hW1 hW2 hs1 hs2 hb1 hb2 pc0 pc pr hg h hwf hk hkey hcn hcv hcs hxs hans hce hgs
  go_enter Tryz.func23, Tryz.ntmps23
  go_wp2_with (fail)
  rw [HW1.out, HW2.out, HW.out]
  go_wp2_with (fail)
  go_region_held3 (fun w' => w'.cell? ⟨g, 4, none⟩ = some (.int .i64 n) ∧ w'.cell? ⟨g + 1, 1, none⟩ = some (.int .i64 (q)))
    (first | go_keep | fail)
    ((go_at_call 61; refine HCALL.out.mono ?_; rintro e wx ⟨rfl, hbx⟩; have c4wx := (HALL.out wx (But.of_below hbx u.of)).2.2.1; have d1wx := (HALL.out wx (But.of_below hbx u.of)).2.2.2.2.2.1; have HBX := Lib.hid hbx; clear hbx))
  go_wp2_with (fail)
  go_ret
  exact ⟨u, by simp, num_end HBT.out (HX2.out.below HBX.out) (HSIM.out.same (by rw [HCE.out.1]; decide)) rfl (But.of_below HBX.out _) (fun i hi => .inl hi)⟩
set_option maxRecDepth 100000 in
set_option maxHeartbeats 4000000 in
theorem num_k7 (u : NI.StV) (A : AbS) (m ns : Nat) (on : Int) (key : Key) (n : Int) (v0 : ByteArray) (c : CallV) (hce : c = ⟨on, 7, key, n, v0⟩) (w : World) (h : NI.StAt w u) (hsim : SimI u A) (hb : BndA A m) (hm : m ≤ 4000000000000) (hwf : wfI c.n) (hG : HG w) (hgs : ∀ i, u.of i → 0 < i) :
    Calls Tryz.prog 23 #[.pointer (some ⟨u.p, 0, none⟩), .agg c.cs.toArray, .agg (ansA A ns c).cs.toArray] w (NumQ w u A c) := by
  have hk : c.kind = 7 := by rw [hce]
  have hkey : c.key = key := by rw [hce]
  have hcn : c.n = n := by rw [hce]
  have hcv : c.v = v0 := by rw [hce]
  have hold : ∀ i, u.of i → i < w.heap.size := fun i hi => h.lt hi
  have hans : ansA A ns c = ⟨⟨#[]⟩, pruneN (getR A.rows key) (minL n A.R), false⟩ := by unfold ansA; rw [hk, hkey, hcn]; rfl
  have hgr := hsim.getR hb.nd key
  obtain ⟨mn, hmn⟩ : ∃ q, minL n A.R = q := ⟨_, rfl⟩
  obtain ⟨q, hq'⟩ : ∃ q, pruneN (getR A.rows key) mn = q := ⟨_, rfl⟩
  rw [hmn, hq'] at hans
  have hcs : c.cs.toArray = #[.int .i64 on, .int .i64 (7), .int .i64 key.acc, .int .i64 key.ast, .int .i64 n, .string v0] := by rw [hce]; rfl
  have hxs : (SaidV.cs ⟨⟨#[]⟩, q, false⟩).toArray = #[.string ⟨#[]⟩, .int .i64 (q), .bool false] := rfl
  rw [hans, hcs, hxs]
  obtain ⟨g, hg⟩ : ∃ g, w.heap.size = g := ⟨_, rfl⟩
  obtain ⟨W1, hW1⟩ : ∃ X, w.alloc (.cells #[.int .i64 on, .int .i64 (7), .int .i64 key.acc, .int .i64 key.ast, .int .i64 n, .string v0] 35) = X := ⟨_, rfl⟩
  obtain ⟨W2, hW2⟩ : ∃ X, W1.alloc (.cells #[.string ⟨#[]⟩, .int .i64 (q), .bool false] 37) = X := ⟨_, rfl⟩
  have hs1 : W1.heap.size = g + 1 := by rw [← hW1, ← hg]; simp
  have hs2 : W2.heap.size = g + 2 := by rw [← hW2]; simp; omega
  have hb1 : Below w.heap.size w W1 := hW1 ▸ (Below.refl _ _).alloc (Nat.le_refl _) _
  have hb2 : Below W1.heap.size W1 W2 := hW2 ▸ (Below.refl _ _).alloc (Nat.le_refl _) _
  have hbt : Below w.heap.size w W2 := hb1.trans (hb2.mono hb1.size)
  have pc0 : Blk W1 g 35 #[.int .i64 on, .int .i64 (7), .int .i64 key.acc, .int .i64 key.ast, .int .i64 n, .string v0] := by rw [← hW1, ← hg]; exact Blk.new _ _ _
  have pc := pc0.below hb2 pc0.lt
  have pr : Blk W2 (g + 1) 37 #[.string ⟨#[]⟩, .int .i64 (q), .bool false] := by rw [← hW2, ← hs1]; exact Blk.new _ _ _
  have h2 : NI.StAt W2.drew u := h.below (hbt.drew)
  have hne : ∀ i, u.of i → i ≠ g ∧ i ≠ g + 1 := fun i hi => by have := hold i hi; omega
  have hall : ∀ w', But W2.drew w' u.of → w'.cell? ⟨g, 2, none⟩ = some (.int .i64 key.acc) ∧ w'.cell? ⟨g, 3, none⟩ = some (.int .i64 key.ast) ∧ w'.cell? ⟨g, 4, none⟩ = some (.int .i64 n) ∧ w'.cell? ⟨g, 5, none⟩ = some (.string v0) ∧ w'.cell? ⟨g + 1, 0, none⟩ = some (.string ⟨#[]⟩) ∧ w'.cell? ⟨g + 1, 1, none⟩ = some (.int .i64 (q)) ∧ w'.cell? ⟨g + 1, 2, none⟩ = some (.bool false) := by
    intro w' hbw
    have hbw2 : But W2 w' u.of := ((But.of_below ((Below.refl _ _).drew) u.of).trans hbw (fun _ _ h => h))
    have p1 := pc.but hbw2 (fun hi => (hne _ hi).1 rfl)
    have p2 := pr.but hbw2 (fun hi => (hne _ hi).2 rfl)
    exact ⟨p1.cell 2, p1.cell 3, p1.cell 4, p1.cell 5, p2.cell 0, p2.cell 1, p2.cell 2⟩
  have c1 : W2.cell? ⟨g, 1, none⟩ = some (.int .i64 (7)) := pc.cell 1
  have c2 : W2.cell? ⟨g, 2, none⟩ = some (.int .i64 key.acc) := pc.cell 2
  have c3 : W2.cell? ⟨g, 3, none⟩ = some (.int .i64 key.ast) := pc.cell 3
  have c4 : W2.cell? ⟨g, 4, none⟩ = some (.int .i64 n) := pc.cell 4
  have d1 : W2.cell? ⟨g + 1, 1, none⟩ = some (.int .i64 (q)) := pr.cell 1
  have hcall := NI.pruneS_calls u key n W2.drew h2
  unfold NI.PruneSQ at hcall
  rw [hsim.R, hmn, hgr, mapI_pruneN, hq'] at hcall
  have HMN := Lib.hid hmn
  clear hq' hmn hgr
  have HALL := Lib.hid hall
  have HBT : Hid (Below w.heap.size w W2.drew) := Lib.hid (hbt.drew)
  have HSIM := Lib.hid hsim
  have HCALL := Lib.hid hcall
  have HX2 := Lib.hid h2
  have HND := Lib.hid hb.nd
  have HCE : Hid (c.kind = 7 ∧ c.key = key ∧ c.n = n ∧ c.v = v0) := Lib.hid ⟨hk, hkey, hcn, hcv⟩
  have HW1 := Lib.hid hW1
  have HW2 := Lib.hid hW2
  have HW := Lib.hid hg
  have HG2 : Hid (HG W2.drew) := Lib.hid (hG.below (hbt.drew))
  have HGS := Lib.hid hgs
  clear hall hbt hsim hb hcall h2 hold hne hG hW1 hW2 hs1 hs2 hb1 hb2 pc0 pc pr hg h hwf hk hkey hcn hcv hcs hxs hans hce hgs
  go_enter Tryz.func23, Tryz.ntmps23
  go_wp2_with (fail)
  rw [HW1.out, HW2.out, HW.out]
  go_wp2_with (fail)
  go_region_held3 (fun w' => w'.cell? ⟨g, 2, none⟩ = some (.int .i64 key.acc) ∧ w'.cell? ⟨g, 3, none⟩ = some (.int .i64 key.ast) ∧ w'.cell? ⟨g, 4, none⟩ = some (.int .i64 n) ∧ w'.cell? ⟨g + 1, 1, none⟩ = some (.int .i64 (q)))
    (first | go_keep | fail)
    ((go_at_call 62; refine HCALL.out.mono ?_; rintro e wx ⟨u', rfl, hq⟩; have c2wx := (HALL.out wx (hq.but)).1; have c3wx := (HALL.out wx (hq.but)).2.1; have c4wx := (HALL.out wx (hq.but)).2.2.1; have d1wx := (HALL.out wx (hq.but)).2.2.2.2.2.1; have HQ := Lib.hid hq; clear hq))
  go_wp2_with (fail)
  go_ret
  exact ⟨u', by simp, num_end HBT.out HQ.out.at_ (HSIM.out.pruned HND.out HCE.out.1 (by rw [HCE.out.2.1, HCE.out.2.2.1, HMN.out]; exact HQ.out)) HQ.out.ep HQ.out.but HQ.out.new⟩
set_option maxRecDepth 100000 in
set_option maxHeartbeats 4000000 in
theorem num_k8 (u : NI.StV) (A : AbS) (m ns : Nat) (on : Int) (key : Key) (n : Int) (v0 : ByteArray) (c : CallV) (hce : c = ⟨on, 8, key, n, v0⟩) (w : World) (h : NI.StAt w u) (hsim : SimI u A) (hb : BndA A m) (hm : m ≤ 4000000000000) (hwf : wfI c.n) (hG : HG w) (hgs : ∀ i, u.of i → 0 < i) :
    Calls Tryz.prog 23 #[.pointer (some ⟨u.p, 0, none⟩), .agg c.cs.toArray, .agg (ansA A ns c).cs.toArray] w (NumQ w u A c) := by
  have hk : c.kind = 8 := by rw [hce]
  have hkey : c.key = key := by rw [hce]
  have hcn : c.n = n := by rw [hce]
  have hcv : c.v = v0 := by rw [hce]
  have hold : ∀ i, u.of i → i < w.heap.size := fun i hi => h.lt hi
  have hans : ansA A ns c = ⟨⟨#[]⟩, total A.rows, false⟩ := by unfold ansA; rw [hk]; rfl
  obtain ⟨q, hq'⟩ : ∃ q, total A.rows = q := ⟨_, rfl⟩
  have htl := hb.t
  rw [hq'] at hans htl
  have hcs : c.cs.toArray = #[.int .i64 on, .int .i64 (8), .int .i64 key.acc, .int .i64 key.ast, .int .i64 n, .string v0] := by rw [hce]; rfl
  have hxs : (SaidV.cs ⟨⟨#[]⟩, q, false⟩).toArray = #[.string ⟨#[]⟩, .int .i64 (q), .bool false] := rfl
  rw [hans, hcs, hxs]
  obtain ⟨g, hg⟩ : ∃ g, w.heap.size = g := ⟨_, rfl⟩
  obtain ⟨W1, hW1⟩ : ∃ X, w.alloc (.cells #[.int .i64 on, .int .i64 (8), .int .i64 key.acc, .int .i64 key.ast, .int .i64 n, .string v0] 35) = X := ⟨_, rfl⟩
  obtain ⟨W2, hW2⟩ : ∃ X, W1.alloc (.cells #[.string ⟨#[]⟩, .int .i64 (q), .bool false] 37) = X := ⟨_, rfl⟩
  have hs1 : W1.heap.size = g + 1 := by rw [← hW1, ← hg]; simp
  have hs2 : W2.heap.size = g + 2 := by rw [← hW2]; simp; omega
  have hb1 : Below w.heap.size w W1 := hW1 ▸ (Below.refl _ _).alloc (Nat.le_refl _) _
  have hb2 : Below W1.heap.size W1 W2 := hW2 ▸ (Below.refl _ _).alloc (Nat.le_refl _) _
  have hbt : Below w.heap.size w W2 := hb1.trans (hb2.mono hb1.size)
  have pc0 : Blk W1 g 35 #[.int .i64 on, .int .i64 (8), .int .i64 key.acc, .int .i64 key.ast, .int .i64 n, .string v0] := by rw [← hW1, ← hg]; exact Blk.new _ _ _
  have pc := pc0.below hb2 pc0.lt
  have pr : Blk W2 (g + 1) 37 #[.string ⟨#[]⟩, .int .i64 (q), .bool false] := by rw [← hW2, ← hs1]; exact Blk.new _ _ _
  have h2 : NI.StAt W2.drew u := h.below (hbt.drew)
  have hne : ∀ i, u.of i → i ≠ g ∧ i ≠ g + 1 := fun i hi => by have := hold i hi; omega
  have hall : ∀ w', But W2.drew w' u.of → w'.cell? ⟨g, 2, none⟩ = some (.int .i64 key.acc) ∧ w'.cell? ⟨g, 3, none⟩ = some (.int .i64 key.ast) ∧ w'.cell? ⟨g, 4, none⟩ = some (.int .i64 n) ∧ w'.cell? ⟨g, 5, none⟩ = some (.string v0) ∧ w'.cell? ⟨g + 1, 0, none⟩ = some (.string ⟨#[]⟩) ∧ w'.cell? ⟨g + 1, 1, none⟩ = some (.int .i64 (q)) ∧ w'.cell? ⟨g + 1, 2, none⟩ = some (.bool false) := by
    intro w' hbw
    have hbw2 : But W2 w' u.of := ((But.of_below ((Below.refl _ _).drew) u.of).trans hbw (fun _ _ h => h))
    have p1 := pc.but hbw2 (fun hi => (hne _ hi).1 rfl)
    have p2 := pr.but hbw2 (fun hi => (hne _ hi).2 rfl)
    exact ⟨p1.cell 2, p1.cell 3, p1.cell 4, p1.cell 5, p2.cell 0, p2.cell 1, p2.cell 2⟩
  have c1 : W2.cell? ⟨g, 1, none⟩ = some (.int .i64 (8)) := pc.cell 1
  have d1 : W2.cell? ⟨g + 1, 1, none⟩ = some (.int .i64 (q)) := pr.cell 1
  have hcall := NI.versionsS_calls u W2.drew h2 (by rw [hsim.total, hq']; omega)
  rw [hsim.total, hq'] at hcall
  clear hq' htl
  have HALL := Lib.hid hall
  have HBT : Hid (Below w.heap.size w W2.drew) := Lib.hid (hbt.drew)
  have HSIM := Lib.hid hsim
  have HCALL := Lib.hid hcall
  have HX2 := Lib.hid h2
  have HND := Lib.hid hb.nd
  have HCE : Hid (c.kind = 8 ∧ c.key = key ∧ c.n = n ∧ c.v = v0) := Lib.hid ⟨hk, hkey, hcn, hcv⟩
  have HW1 := Lib.hid hW1
  have HW2 := Lib.hid hW2
  have HW := Lib.hid hg
  have HG2 : Hid (HG W2.drew) := Lib.hid (hG.below (hbt.drew))
  have HGS := Lib.hid hgs
  clear hall hbt hsim hb hcall h2 hold hne hG hW1 hW2 hs1 hs2 hb1 hb2 pc0 pc pr hg h hwf hk hkey hcn hcv hcs hxs hans hce hgs
  go_enter Tryz.func23, Tryz.ntmps23
  go_wp2_with (fail)
  rw [HW1.out, HW2.out, HW.out]
  go_wp2_with (fail)
  go_region_held3 (fun w' => w'.cell? ⟨g + 1, 1, none⟩ = some (.int .i64 (q)))
    (first | go_keep | fail)
    ((go_at_call 24; refine HCALL.out.mono ?_; rintro e wx ⟨rfl, hbx⟩; have d1wx := (HALL.out wx (But.of_below hbx u.of)).2.2.2.2.2.1; have HBX := Lib.hid hbx; clear hbx))
  go_wp2_with (fail)
  go_ret
  exact ⟨u, by simp, num_end HBT.out (HX2.out.below HBX.out) (HSIM.out.same (by rw [HCE.out.1]; decide)) rfl (But.of_below HBX.out _) (fun i hi => .inl hi)⟩
theorem number_calls (u : NI.StV) (A : AbS) (m ns : Nat) (c : CallV) (h3 : c.kind ≠ 3) (h08 : 0 ≤ c.kind ∧ c.kind ≤ 8) (w : World) (h : NI.StAt w u) (hsim : SimI u A) (hb : BndA A m) (hm : m ≤ 4000000000000) (hwf : wfI c.n) (hG : HG w) (hgs : ∀ i, u.of i → 0 < i) :
    Calls Tryz.prog 23 #[.pointer (some ⟨u.p, 0, none⟩), .agg c.cs.toArray, .agg (ansA A ns c).cs.toArray] w (NumQ w u A c) := by
  obtain ⟨on, kd, key, n, v0⟩ := c
  simp only at h3 h08
  by_cases h0' : kd = 0
  · subst h0'; exact num_k0 u A m ns on key n v0 _ rfl w h hsim hb hm hwf hG hgs
  by_cases h1' : kd = 1
  · subst h1'; exact num_k1 u A m ns on key n v0 _ rfl w h hsim hb hm hwf hG hgs
  by_cases h2' : kd = 2
  · subst h2'; exact num_k2 u A m ns on key n v0 _ rfl w h hsim hb hm hwf hG hgs
  by_cases h4' : kd = 4
  · subst h4'; exact num_k4 u A m ns on key n v0 _ rfl w h hsim hb hm hwf hG hgs
  by_cases h5' : kd = 5
  · subst h5'; exact num_k5 u A m ns on key n v0 _ rfl w h hsim hb hm hwf hG hgs
  by_cases h6' : kd = 6
  · subst h6'; exact num_k6 u A m ns on key n v0 _ rfl w h hsim hb hm hwf hG hgs
  by_cases h7' : kd = 7
  · subst h7'; exact num_k7 u A m ns on key n v0 _ rfl w h hsim hb hm hwf hG hgs
  obtain rfl : kd = 8 := by omega
  exact num_k8 u A m ns on key n v0 _ rfl w h hsim hb hm hwf hG hgs
end Go.Proofs.YtflkddllofeiaaaGreatDoor
