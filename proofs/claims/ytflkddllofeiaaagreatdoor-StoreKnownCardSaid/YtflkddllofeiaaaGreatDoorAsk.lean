/- custodylaw11's ask by a contract (printed by gen_ask11.py). -/
import Derived.Test.YtflkddllofeiaaaGreatDoorAb
import Derived.Test.YtflkddllofeiaaaGreatDoorS7
import Derived.Test.YtflkddllofeiaaaGreatDoorPlain
import Derived.Laws.Rows
namespace Go.Proofs.YtflkddllofeiaaaGreatDoor
set_option linter.unusedSimpArgs false
set_option linter.unusedVariables false
open Go.RowKit Go.MapKept Go.ChangeMaps Go.Maps

theorem results_cell1 {P : Program} {fn : Func} {t : Tmp} {ty : TypeId} (h : fn.results = #[.cell t ty]) {tmps : Array Value} {w : World} {g : Nat} (ht : tmps.getD t undef = .pointer (some ⟨g, 0, none⟩)) {tb : TypeId} (cs : List Value) (hb : Blk w g tb cs.toArray)
    {d : TypeDesc} (hu : P.underlying ty = some d) (hd : d.isRow = true) (hi : (P.info? ty).map (·.size) = some cs.length) : (results fn tmps).run P w = .ok (.agg cs.toArray) w := by
  have l1 := run_loadVar_mid (P := P) w g 0 ty cs d (fun j v hv => by rw [Nat.zero_add, hb.cell j]; simpa using hv) hu hd hi
  simp only [Array.getD_eq_getD_getElem?] at ht
  simp [results, h, ht, asAddr, l1]
theorem HG.but {w w' : World} {S : Nat → Prop} (h : HG w) (hb : But w w' S) (hS : ∀ i, S i → 0 < i) : HG w' :=
  (World.cell?_of_block (hb.block _ h.lt (fun hs => Nat.lt_irrefl _ (hS _ hs)))).trans h
theorem sizeSaid : (Tryz.prog.info? 37).map (·.size) = some 3 := by kernel_rfl
def CallV.cs (c : CallV) : List Value := [.int .i64 c.on, .int .i64 c.kind, .int .i64 c.key.acc, .int .i64 c.key.ast, .int .i64 c.n, .string c.v]
theorem CallV.len (c : CallV) : c.cs.length = 6 := rfl
def SaidV.cs (a : SaidV) : List Value := [.string a.v, .int .i64 a.n, .bool a.ok]
structure AskS (w w' : World) (s s' : StV) (A' : AbS) : Prop where
  at_ : StAt w' s'
  sim : Sim s' A'
  en : s'.n = s.n
  ep : s'.p = s.p
  but : But w w' s.of
  new : ∀ i, s'.of i → s.of i ∨ w.heap.size ≤ i
def AskQ (w : World) (s : StV) (A : AbS) (c : CallV) (e : Ending) (w' : World) : Prop := ∃ s', e = .returned (.agg (ansA A s.n c).cs.toArray) ∧ AskS w w' s s' (stepA A c)
section
variable {w W wx wf : World} {s s' : StV} {A A' : AbS} {g : Nat}
theorem ask_end (hb : Below w.heap.size w W) (hg : w.heap.size ≤ g ∧ g < W.heap.size) (hold : ∀ i, s.of i → i < w.heap.size) (h : StAt wx s') (hs : Sim s' A') (en : s'.n = s.n) (ep : s'.p = s.p) (hx : But W wx s.of) (hn : ∀ i, s'.of i → s.of i ∨ W.heap.size ≤ i)
    (hf : But wx wf (fun i => i = g)) : AskS w wf s s' A' := by
  have hng : ∀ i, s'.of i → i ≠ g := fun i hi e => by
    subst e
    rcases hn i hi with h1 | h1
    · have := hold i h1; omega
    · omega
  exact ⟨h.but hf hng, hs, en, ep, ((But.of_below hb s.of).trans hx (fun _ _ h => h)).trans hf (fun i hi e => by omega), fun i hi => (hn i hi).imp (fun h => h) (fun h => Nat.le_trans hb.size h)⟩
theorem Sim.put (h : Sim s A) (hnd : (A.rows.map (·.1)).Nodup) {k : Key} {n : Int} {v : ByteArray} {c : CallV} (hc : c.kind = 0 ∧ c.key = k ∧ c.n = n ∧ c.v = v) {w w' : World} (hq : PutS w w' s s' k n v) : Sim s' (stepA A c) := by
  obtain ⟨h0, rfl, rfl, rfl⟩ := hc
  unfold stepA
  rw [if_pos h0]
  have hg := getR_perm h.rows hnd c.key
  refine ⟨?_, hq.eR.trans h.R, hq.ebg.trans h.bg⟩
  show s'.rows.Perm (putR A.rows c.key c.n c.v)
  unfold putR
  rw [← hg]
  split
  · rename_i hm
    exact (hq.yes hm).trans (mput_perm h.rows hnd)
  · rename_i hm
    rw [hq.no (by simpa using hm)]
    exact h.rows
end
set_option maxRecDepth 100000 in
set_option maxHeartbeats 4000000 in
theorem ask_k1 (s : StV) (A : AbS) (m : Nat) (on : Int) (key : Key) (n : Int) (v0 : ByteArray) (c : CallV) (hce : c = ⟨on, 1, key, n, v0⟩) (w : World) (h : StAt w s) (hsim : Sim s A) (hb : BndA A m) (hm : m ≤ 4000000000000) (hwf : wfI c.n) (hG : HG w) (hgs : ∀ i, s.of i → 0 < i) :
    Calls Tryz.prog 10 #[.pointer (some ⟨s.p, 0, none⟩), .agg c.cs.toArray] w (AskQ w s A c) := by
  have hk : c.kind = 1 := by rw [hce]
  have hkey : c.key = key := by rw [hce]
  have hcn : c.n = n := by rw [hce]
  have hcv : c.v = v0 := by rw [hce]
  have hcs : c.cs.toArray = #[.int .i64 on, .int .i64 (1), .int .i64 key.acc, .int .i64 key.ast, .int .i64 n, .string v0] := by rw [hce]; rfl
  rw [hcs]
  have hold : ∀ i, s.of i → i < w.heap.size := fun i hi => h.lt hi
  have hgr : ∀ k, getR s.rows k = getR A.rows k := fun k => getR_perm hsim.rows hb.nd k
  have hrows := hsim.rows
  obtain ⟨g, hg⟩ : ∃ g, w.heap.size = g := ⟨_, rfl⟩
  obtain ⟨W1, hW1⟩ : ∃ X, w.alloc (.cells #[.int .i64 on, .int .i64 (1), .int .i64 key.acc, .int .i64 key.ast, .int .i64 n, .string v0] 35) = X := ⟨_, rfl⟩
  obtain ⟨W2, hW2⟩ : ∃ X, W1.alloc (.cells #[.string ⟨#[]⟩, .int .i64 0, .bool false] 37) = X := ⟨_, rfl⟩
  have hs1 : W1.heap.size = g + 1 := by rw [← hW1, ← hg]; simp
  have hs2 : W2.heap.size = g + 2 := by rw [← hW2]; simp; omega
  have hb1 : Below w.heap.size w W1 := hW1 ▸ (Below.refl _ _).alloc (Nat.le_refl _) _
  have hb2 : Below W1.heap.size W1 W2 := hW2 ▸ (Below.refl _ _).alloc (Nat.le_refl _) _
  have hbt : Below w.heap.size w W2 := hb1.trans (hb2.mono hb1.size)
  have pc0 : Blk W1 g 35 #[.int .i64 on, .int .i64 (1), .int .i64 key.acc, .int .i64 key.ast, .int .i64 n, .string v0] := by rw [← hW1, ← hg]; exact Blk.new _ _ _
  have pc := pc0.below hb2 pc0.lt
  have pr : Blk W2 (g + 1) 37 #[.string ⟨#[]⟩, .int .i64 0, .bool false] := by rw [← hW2, ← hs1]; exact Blk.new _ _ _
  have h2 := h.below hbt
  have c1 : W2.cell? ⟨g, 1, none⟩ = some (.int .i64 (1)) := pc.cell 1
  have c2 : W2.cell? ⟨g, 2, none⟩ = some (.int .i64 key.acc) := pc.cell 2
  have c3 : W2.cell? ⟨g, 3, none⟩ = some (.int .i64 key.ast) := pc.cell 3
  have c4 : W2.cell? ⟨g, 4, none⟩ = some (.int .i64 n) := pc.cell 4
  have c5 : W2.cell? ⟨g, 5, none⟩ = some (.string v0) := pc.cell 5
  have hgb : w.heap.size ≤ g + 1 ∧ g + 1 < W2.heap.size := by omega
  have hgo : ∀ i, s.of i → i ≠ g + 1 := fun i hi e => by have := hold i hi; omega
  have HBT := Lib.hid hbt
  have HGB := Lib.hid hgb
  have HGO := Lib.hid hgo
  have HOLD := Lib.hid hold
  have HSIM := Lib.hid hsim
  have HBA := Lib.hid hb
  have HGR := Lib.hid hgr
  have HG2 := Lib.hid (hG.below hbt)
  have HGS := Lib.hid hgs
  have HW1 := Lib.hid hW1
  have HW2 := Lib.hid hW2
  have HS1 := Lib.hid hs1
  have HPR := Lib.hid pr
  have H2 := Lib.hid h2
  have HW := Lib.hid hg
  have hans : ansA A s.n c = ⟨atV (getR A.rows key) n, 0, decide (0 < leN (getR A.rows key) n)⟩ := by unfold ansA; rw [hk, hkey, hcn]; rfl
  have hstep : stepA A c = A := by unfold stepA; rw [hk]; rfl
  have hcall := atS_calls s key n W2 h2
  rw [hgr] at hcall
  obtain ⟨v, hv'⟩ : ∃ v, atV (getR A.rows key) n = v := ⟨_, rfl⟩
  rw [hv'] at hcall hans
  obtain ⟨b, hb'⟩ : ∃ b, decide (0 < leN (getR A.rows key) n) = b := ⟨_, rfl⟩
  rw [hb'] at hcall hans
  have HANS := Lib.hid hans
  have HSTEP := Lib.hid hstep
  have HCALL := Lib.hid hcall
  clear hans hstep hcall hv' hb'
  clear hbt hgb hgo hold hsim hb hgr hG hW1 hW2 hs1 hs2 hb1 hb2 pc0 pc pr h2 hg h hrows hwf hk hkey hcn hcv hcs hce hgs
  go_enter Tryz.func10, Tryz.ntmps10
  go_wp2_with (fail)
  rw [HW1.out, HW2.out, HW.out]
  go_wp2_with (fail)
  refine HCALL.out.mono ?_
  rintro e wx ⟨rfl, hbx⟩
  have HX := Lib.hid (H2.out.below hbx)
  have HSX : Hid (Sim s (stepA A c)) := Lib.hid (by rw [HSTEP.out]; exact HSIM.out)
  have HBX := Lib.hid (But.of_below hbx s.of)
  have HNX : Hid (∀ i, s.of i → s.of i ∨ W2.heap.size ≤ i) := Lib.hid (fun i hi => .inl hi)
  clear hbx
  have hrx := HPR.out.but HBX.out (fun h => HGO.out _ h rfl)
  have HRX := Lib.hid hrx
  have z0 : wx.frozen? ⟨g + 1, 0, none⟩ = false := hrx.frozen 0
  have z1 : wx.frozen? ⟨g + 1, 1, none⟩ = false := hrx.frozen 1
  have z2 : wx.frozen? ⟨g + 1, 2, none⟩ = false := hrx.frozen 2
  have y0 : wx.cell? ⟨g + 1, 0, none⟩ = some (.string ⟨#[]⟩) := hrx.cell 0
  have y1 : wx.cell? ⟨g + 1, 1, none⟩ = some (.int .i64 0) := hrx.cell 1
  have y2 : wx.cell? ⟨g + 1, 2, none⟩ = some (.bool false) := hrx.cell 2
  clear hrx
  go_wp2_with (fail)
  have hrr := ((HRX.out.set_ 0 (.string v)).set_ 1 (.int .i64 0)).set_ 2 (.bool b)
  have hfb : But wx (((wx.setCell ⟨g + 1, 0, none⟩ (.string v)).setCell ⟨g + 1, 1, none⟩ (.int .i64 0)).setCell ⟨g + 1, 2, none⟩ (.bool b)) (fun i => i = g + 1) := (((But.refl wx (fun i => i = g + 1)).setCell (p := ⟨g + 1, 0, none⟩) (fun _ => rfl) _).setCell (p := ⟨g + 1, 1, none⟩) (fun _ => rfl) _).setCell (p := ⟨g + 1, 2, none⟩) (fun _ => rfl) _
  refine ⟨rfl, _, results_cell1 Tryz.results10 rfl [.string v, .int .i64 0, .bool b] hrr Tryz.underlying37 rfl sizeSaid, _, ?_, ask_end HBT.out HGB.out HOLD.out HX.out HSX.out rfl rfl HBX.out HNX.out hfb⟩
  rw [HANS.out]
  rfl
set_option maxRecDepth 100000 in
set_option maxHeartbeats 4000000 in
theorem ask_k2 (s : StV) (A : AbS) (m : Nat) (on : Int) (key : Key) (n : Int) (v0 : ByteArray) (c : CallV) (hce : c = ⟨on, 2, key, n, v0⟩) (w : World) (h : StAt w s) (hsim : Sim s A) (hb : BndA A m) (hm : m ≤ 4000000000000) (hwf : wfI c.n) (hG : HG w) (hgs : ∀ i, s.of i → 0 < i) :
    Calls Tryz.prog 10 #[.pointer (some ⟨s.p, 0, none⟩), .agg c.cs.toArray] w (AskQ w s A c) := by
  have hk : c.kind = 2 := by rw [hce]
  have hkey : c.key = key := by rw [hce]
  have hcn : c.n = n := by rw [hce]
  have hcv : c.v = v0 := by rw [hce]
  have hcs : c.cs.toArray = #[.int .i64 on, .int .i64 (2), .int .i64 key.acc, .int .i64 key.ast, .int .i64 n, .string v0] := by rw [hce]; rfl
  rw [hcs]
  have hold : ∀ i, s.of i → i < w.heap.size := fun i hi => h.lt hi
  have hgr : ∀ k, getR s.rows k = getR A.rows k := fun k => getR_perm hsim.rows hb.nd k
  have hrows := hsim.rows
  obtain ⟨g, hg⟩ : ∃ g, w.heap.size = g := ⟨_, rfl⟩
  obtain ⟨W1, hW1⟩ : ∃ X, w.alloc (.cells #[.int .i64 on, .int .i64 (2), .int .i64 key.acc, .int .i64 key.ast, .int .i64 n, .string v0] 35) = X := ⟨_, rfl⟩
  obtain ⟨W2, hW2⟩ : ∃ X, W1.alloc (.cells #[.string ⟨#[]⟩, .int .i64 0, .bool false] 37) = X := ⟨_, rfl⟩
  have hs1 : W1.heap.size = g + 1 := by rw [← hW1, ← hg]; simp
  have hs2 : W2.heap.size = g + 2 := by rw [← hW2]; simp; omega
  have hb1 : Below w.heap.size w W1 := hW1 ▸ (Below.refl _ _).alloc (Nat.le_refl _) _
  have hb2 : Below W1.heap.size W1 W2 := hW2 ▸ (Below.refl _ _).alloc (Nat.le_refl _) _
  have hbt : Below w.heap.size w W2 := hb1.trans (hb2.mono hb1.size)
  have pc0 : Blk W1 g 35 #[.int .i64 on, .int .i64 (2), .int .i64 key.acc, .int .i64 key.ast, .int .i64 n, .string v0] := by rw [← hW1, ← hg]; exact Blk.new _ _ _
  have pc := pc0.below hb2 pc0.lt
  have pr : Blk W2 (g + 1) 37 #[.string ⟨#[]⟩, .int .i64 0, .bool false] := by rw [← hW2, ← hs1]; exact Blk.new _ _ _
  have h2 := h.below hbt
  have c1 : W2.cell? ⟨g, 1, none⟩ = some (.int .i64 (2)) := pc.cell 1
  have c2 : W2.cell? ⟨g, 2, none⟩ = some (.int .i64 key.acc) := pc.cell 2
  have c3 : W2.cell? ⟨g, 3, none⟩ = some (.int .i64 key.ast) := pc.cell 3
  have c4 : W2.cell? ⟨g, 4, none⟩ = some (.int .i64 n) := pc.cell 4
  have c5 : W2.cell? ⟨g, 5, none⟩ = some (.string v0) := pc.cell 5
  have hgb : w.heap.size ≤ g + 1 ∧ g + 1 < W2.heap.size := by omega
  have hgo : ∀ i, s.of i → i ≠ g + 1 := fun i hi e => by have := hold i hi; omega
  have HBT := Lib.hid hbt
  have HGB := Lib.hid hgb
  have HGO := Lib.hid hgo
  have HOLD := Lib.hid hold
  have HSIM := Lib.hid hsim
  have HBA := Lib.hid hb
  have HGR := Lib.hid hgr
  have HG2 := Lib.hid (hG.below hbt)
  have HGS := Lib.hid hgs
  have HW1 := Lib.hid hW1
  have HW2 := Lib.hid hW2
  have HS1 := Lib.hid hs1
  have HPR := Lib.hid pr
  have H2 := Lib.hid h2
  have HW := Lib.hid hg
  have hans : ansA A s.n c = ⟨lastV (getR A.rows key), lastM (getR A.rows key), decide (0 < (getR A.rows key).length)⟩ := by unfold ansA; rw [hk, hkey]; rfl
  have hstep : stepA A c = A := by unfold stepA; rw [hk]; rfl
  have hcall := lastS_calls s key W2 h2
  rw [hgr] at hcall
  obtain ⟨v, hv'⟩ : ∃ v, lastV (getR A.rows key) = v := ⟨_, rfl⟩
  rw [hv'] at hcall hans
  obtain ⟨q, hq'⟩ : ∃ q, lastM (getR A.rows key) = q := ⟨_, rfl⟩
  rw [hq'] at hcall hans
  obtain ⟨b, hb'⟩ : ∃ b, decide (0 < (getR A.rows key).length) = b := ⟨_, rfl⟩
  rw [hb'] at hcall hans
  have HANS := Lib.hid hans
  have HSTEP := Lib.hid hstep
  have HCALL := Lib.hid hcall
  clear hans hstep hcall hv' hq' hb'
  clear hbt hgb hgo hold hsim hb hgr hG hW1 hW2 hs1 hs2 hb1 hb2 pc0 pc pr h2 hg h hrows hwf hk hkey hcn hcv hcs hce hgs
  go_enter Tryz.func10, Tryz.ntmps10
  go_wp2_with (fail)
  rw [HW1.out, HW2.out, HW.out]
  go_wp2_with (fail)
  refine HCALL.out.mono ?_
  rintro e wx ⟨rfl, hbx⟩
  have HX := Lib.hid (H2.out.below hbx)
  have HSX : Hid (Sim s (stepA A c)) := Lib.hid (by rw [HSTEP.out]; exact HSIM.out)
  have HBX := Lib.hid (But.of_below hbx s.of)
  have HNX : Hid (∀ i, s.of i → s.of i ∨ W2.heap.size ≤ i) := Lib.hid (fun i hi => .inl hi)
  clear hbx
  have hrx := HPR.out.but HBX.out (fun h => HGO.out _ h rfl)
  have HRX := Lib.hid hrx
  have z0 : wx.frozen? ⟨g + 1, 0, none⟩ = false := hrx.frozen 0
  have z1 : wx.frozen? ⟨g + 1, 1, none⟩ = false := hrx.frozen 1
  have z2 : wx.frozen? ⟨g + 1, 2, none⟩ = false := hrx.frozen 2
  have y0 : wx.cell? ⟨g + 1, 0, none⟩ = some (.string ⟨#[]⟩) := hrx.cell 0
  have y1 : wx.cell? ⟨g + 1, 1, none⟩ = some (.int .i64 0) := hrx.cell 1
  have y2 : wx.cell? ⟨g + 1, 2, none⟩ = some (.bool false) := hrx.cell 2
  clear hrx
  go_wp2_with (fail)
  have hrr := ((HRX.out.set_ 0 (.string v)).set_ 1 (.int .i64 q)).set_ 2 (.bool b)
  have hfb : But wx (((wx.setCell ⟨g + 1, 0, none⟩ (.string v)).setCell ⟨g + 1, 1, none⟩ (.int .i64 q)).setCell ⟨g + 1, 2, none⟩ (.bool b)) (fun i => i = g + 1) := (((But.refl wx (fun i => i = g + 1)).setCell (p := ⟨g + 1, 0, none⟩) (fun _ => rfl) _).setCell (p := ⟨g + 1, 1, none⟩) (fun _ => rfl) _).setCell (p := ⟨g + 1, 2, none⟩) (fun _ => rfl) _
  refine ⟨rfl, _, results_cell1 Tryz.results10 rfl [.string v, .int .i64 q, .bool b] hrr Tryz.underlying37 rfl sizeSaid, _, ?_, ask_end HBT.out HGB.out HOLD.out HX.out HSX.out rfl rfl HBX.out HNX.out hfb⟩
  rw [HANS.out]
  rfl
set_option maxRecDepth 100000 in
set_option maxHeartbeats 4000000 in
theorem ask_k6 (s : StV) (A : AbS) (m : Nat) (on : Int) (key : Key) (n : Int) (v0 : ByteArray) (c : CallV) (hce : c = ⟨on, 6, key, n, v0⟩) (w : World) (h : StAt w s) (hsim : Sim s A) (hb : BndA A m) (hm : m ≤ 4000000000000) (hwf : wfI c.n) (hG : HG w) (hgs : ∀ i, s.of i → 0 < i) :
    Calls Tryz.prog 10 #[.pointer (some ⟨s.p, 0, none⟩), .agg c.cs.toArray] w (AskQ w s A c) := by
  have hk : c.kind = 6 := by rw [hce]
  have hkey : c.key = key := by rw [hce]
  have hcn : c.n = n := by rw [hce]
  have hcv : c.v = v0 := by rw [hce]
  have hcs : c.cs.toArray = #[.int .i64 on, .int .i64 (6), .int .i64 key.acc, .int .i64 key.ast, .int .i64 n, .string v0] := by rw [hce]; rfl
  rw [hcs]
  have hold : ∀ i, s.of i → i < w.heap.size := fun i hi => h.lt hi
  have hgr : ∀ k, getR s.rows k = getR A.rows k := fun k => getR_perm hsim.rows hb.nd k
  have hrows := hsim.rows
  obtain ⟨g, hg⟩ : ∃ g, w.heap.size = g := ⟨_, rfl⟩
  obtain ⟨W1, hW1⟩ : ∃ X, w.alloc (.cells #[.int .i64 on, .int .i64 (6), .int .i64 key.acc, .int .i64 key.ast, .int .i64 n, .string v0] 35) = X := ⟨_, rfl⟩
  obtain ⟨W2, hW2⟩ : ∃ X, W1.alloc (.cells #[.string ⟨#[]⟩, .int .i64 0, .bool false] 37) = X := ⟨_, rfl⟩
  have hs1 : W1.heap.size = g + 1 := by rw [← hW1, ← hg]; simp
  have hs2 : W2.heap.size = g + 2 := by rw [← hW2]; simp; omega
  have hb1 : Below w.heap.size w W1 := hW1 ▸ (Below.refl _ _).alloc (Nat.le_refl _) _
  have hb2 : Below W1.heap.size W1 W2 := hW2 ▸ (Below.refl _ _).alloc (Nat.le_refl _) _
  have hbt : Below w.heap.size w W2 := hb1.trans (hb2.mono hb1.size)
  have pc0 : Blk W1 g 35 #[.int .i64 on, .int .i64 (6), .int .i64 key.acc, .int .i64 key.ast, .int .i64 n, .string v0] := by rw [← hW1, ← hg]; exact Blk.new _ _ _
  have pc := pc0.below hb2 pc0.lt
  have pr : Blk W2 (g + 1) 37 #[.string ⟨#[]⟩, .int .i64 0, .bool false] := by rw [← hW2, ← hs1]; exact Blk.new _ _ _
  have h2 := h.below hbt
  have c1 : W2.cell? ⟨g, 1, none⟩ = some (.int .i64 (6)) := pc.cell 1
  have c2 : W2.cell? ⟨g, 2, none⟩ = some (.int .i64 key.acc) := pc.cell 2
  have c3 : W2.cell? ⟨g, 3, none⟩ = some (.int .i64 key.ast) := pc.cell 3
  have c4 : W2.cell? ⟨g, 4, none⟩ = some (.int .i64 n) := pc.cell 4
  have c5 : W2.cell? ⟨g, 5, none⟩ = some (.string v0) := pc.cell 5
  have hgb : w.heap.size ≤ g + 1 ∧ g + 1 < W2.heap.size := by omega
  have hgo : ∀ i, s.of i → i ≠ g + 1 := fun i hi e => by have := hold i hi; omega
  have HBT := Lib.hid hbt
  have HGB := Lib.hid hgb
  have HGO := Lib.hid hgo
  have HOLD := Lib.hid hold
  have HSIM := Lib.hid hsim
  have HBA := Lib.hid hb
  have HGR := Lib.hid hgr
  have HG2 := Lib.hid (hG.below hbt)
  have HGS := Lib.hid hgs
  have HW1 := Lib.hid hW1
  have HW2 := Lib.hid hW2
  have HS1 := Lib.hid hs1
  have HPR := Lib.hid pr
  have H2 := Lib.hid h2
  have HW := Lib.hid hg
  have hans : ansA A s.n c = ⟨⟨#[]⟩, minL n A.R, false⟩ := by unfold ansA; rw [hk, hcn]; rfl
  have hstep : stepA A c = A := by unfold stepA; rw [hk]; rfl
  have hcall := oldestS_calls s n W2 h2
  rw [hsim.R] at hcall
  obtain ⟨q, hq'⟩ : ∃ q, minL n A.R = q := ⟨_, rfl⟩
  rw [hq'] at hcall hans
  have HANS := Lib.hid hans
  have HSTEP := Lib.hid hstep
  have HCALL := Lib.hid hcall
  clear hans hstep hcall hq'
  clear hbt hgb hgo hold hsim hb hgr hG hW1 hW2 hs1 hs2 hb1 hb2 pc0 pc pr h2 hg h hrows hwf hk hkey hcn hcv hcs hce hgs
  go_enter Tryz.func10, Tryz.ntmps10
  go_wp2_with (fail)
  rw [HW1.out, HW2.out, HW.out]
  go_wp2_with (fail)
  refine HCALL.out.mono ?_
  rintro e wx ⟨rfl, hbx⟩
  have HX := Lib.hid (H2.out.below hbx)
  have HSX : Hid (Sim s (stepA A c)) := Lib.hid (by rw [HSTEP.out]; exact HSIM.out)
  have HBX := Lib.hid (But.of_below hbx s.of)
  have HNX : Hid (∀ i, s.of i → s.of i ∨ W2.heap.size ≤ i) := Lib.hid (fun i hi => .inl hi)
  clear hbx
  have hrx := HPR.out.but HBX.out (fun h => HGO.out _ h rfl)
  have HRX := Lib.hid hrx
  have z0 : wx.frozen? ⟨g + 1, 0, none⟩ = false := hrx.frozen 0
  have z1 : wx.frozen? ⟨g + 1, 1, none⟩ = false := hrx.frozen 1
  have z2 : wx.frozen? ⟨g + 1, 2, none⟩ = false := hrx.frozen 2
  have y0 : wx.cell? ⟨g + 1, 0, none⟩ = some (.string ⟨#[]⟩) := hrx.cell 0
  have y1 : wx.cell? ⟨g + 1, 1, none⟩ = some (.int .i64 0) := hrx.cell 1
  have y2 : wx.cell? ⟨g + 1, 2, none⟩ = some (.bool false) := hrx.cell 2
  clear hrx
  go_wp2_with (fail)
  have hrr := ((HRX.out.set_ 0 (.string ⟨#[]⟩)).set_ 1 (.int .i64 q)).set_ 2 (.bool false)
  have hfb : But wx (((wx.setCell ⟨g + 1, 0, none⟩ (.string ⟨#[]⟩)).setCell ⟨g + 1, 1, none⟩ (.int .i64 q)).setCell ⟨g + 1, 2, none⟩ (.bool false)) (fun i => i = g + 1) := (((But.refl wx (fun i => i = g + 1)).setCell (p := ⟨g + 1, 0, none⟩) (fun _ => rfl) _).setCell (p := ⟨g + 1, 1, none⟩) (fun _ => rfl) _).setCell (p := ⟨g + 1, 2, none⟩) (fun _ => rfl) _
  refine ⟨rfl, _, results_cell1 Tryz.results10 rfl [.string ⟨#[]⟩, .int .i64 q, .bool false] hrr Tryz.underlying37 rfl sizeSaid, _, ?_, ask_end HBT.out HGB.out HOLD.out HX.out HSX.out rfl rfl HBX.out HNX.out hfb⟩
  rw [HANS.out]
  rfl
set_option maxRecDepth 100000 in
set_option maxHeartbeats 4000000 in
theorem ask_k8 (s : StV) (A : AbS) (m : Nat) (on : Int) (key : Key) (n : Int) (v0 : ByteArray) (c : CallV) (hce : c = ⟨on, 8, key, n, v0⟩) (w : World) (h : StAt w s) (hsim : Sim s A) (hb : BndA A m) (hm : m ≤ 4000000000000) (hwf : wfI c.n) (hG : HG w) (hgs : ∀ i, s.of i → 0 < i) :
    Calls Tryz.prog 10 #[.pointer (some ⟨s.p, 0, none⟩), .agg c.cs.toArray] w (AskQ w s A c) := by
  have hk : c.kind = 8 := by rw [hce]
  have hkey : c.key = key := by rw [hce]
  have hcn : c.n = n := by rw [hce]
  have hcv : c.v = v0 := by rw [hce]
  have hcs : c.cs.toArray = #[.int .i64 on, .int .i64 (8), .int .i64 key.acc, .int .i64 key.ast, .int .i64 n, .string v0] := by rw [hce]; rfl
  rw [hcs]
  have hold : ∀ i, s.of i → i < w.heap.size := fun i hi => h.lt hi
  have hgr : ∀ k, getR s.rows k = getR A.rows k := fun k => getR_perm hsim.rows hb.nd k
  have hrows := hsim.rows
  obtain ⟨g, hg⟩ : ∃ g, w.heap.size = g := ⟨_, rfl⟩
  obtain ⟨W1, hW1⟩ : ∃ X, w.alloc (.cells #[.int .i64 on, .int .i64 (8), .int .i64 key.acc, .int .i64 key.ast, .int .i64 n, .string v0] 35) = X := ⟨_, rfl⟩
  obtain ⟨W2, hW2⟩ : ∃ X, W1.alloc (.cells #[.string ⟨#[]⟩, .int .i64 0, .bool false] 37) = X := ⟨_, rfl⟩
  have hs1 : W1.heap.size = g + 1 := by rw [← hW1, ← hg]; simp
  have hs2 : W2.heap.size = g + 2 := by rw [← hW2]; simp; omega
  have hb1 : Below w.heap.size w W1 := hW1 ▸ (Below.refl _ _).alloc (Nat.le_refl _) _
  have hb2 : Below W1.heap.size W1 W2 := hW2 ▸ (Below.refl _ _).alloc (Nat.le_refl _) _
  have hbt : Below w.heap.size w W2 := hb1.trans (hb2.mono hb1.size)
  have pc0 : Blk W1 g 35 #[.int .i64 on, .int .i64 (8), .int .i64 key.acc, .int .i64 key.ast, .int .i64 n, .string v0] := by rw [← hW1, ← hg]; exact Blk.new _ _ _
  have pc := pc0.below hb2 pc0.lt
  have pr : Blk W2 (g + 1) 37 #[.string ⟨#[]⟩, .int .i64 0, .bool false] := by rw [← hW2, ← hs1]; exact Blk.new _ _ _
  have h2 := h.below hbt
  have c1 : W2.cell? ⟨g, 1, none⟩ = some (.int .i64 (8)) := pc.cell 1
  have c2 : W2.cell? ⟨g, 2, none⟩ = some (.int .i64 key.acc) := pc.cell 2
  have c3 : W2.cell? ⟨g, 3, none⟩ = some (.int .i64 key.ast) := pc.cell 3
  have c4 : W2.cell? ⟨g, 4, none⟩ = some (.int .i64 n) := pc.cell 4
  have c5 : W2.cell? ⟨g, 5, none⟩ = some (.string v0) := pc.cell 5
  have hgb : w.heap.size ≤ g + 1 ∧ g + 1 < W2.heap.size := by omega
  have hgo : ∀ i, s.of i → i ≠ g + 1 := fun i hi e => by have := hold i hi; omega
  have HBT := Lib.hid hbt
  have HGB := Lib.hid hgb
  have HGO := Lib.hid hgo
  have HOLD := Lib.hid hold
  have HSIM := Lib.hid hsim
  have HBA := Lib.hid hb
  have HGR := Lib.hid hgr
  have HG2 := Lib.hid (hG.below hbt)
  have HGS := Lib.hid hgs
  have HW1 := Lib.hid hW1
  have HW2 := Lib.hid hW2
  have HS1 := Lib.hid hs1
  have HPR := Lib.hid pr
  have H2 := Lib.hid h2
  have HW := Lib.hid hg
  have hans : ansA A s.n c = ⟨⟨#[]⟩, total A.rows, false⟩ := by unfold ansA; rw [hk]; rfl
  have hstep : stepA A c = A := by unfold stepA; rw [hk]; rfl
  have hcall := versionsS_calls s W2 h2 (by rw [lens_rows, total_perm hsim.rows]; have := hb.t; omega)
  rw [lens_rows, total_perm hsim.rows] at hcall
  obtain ⟨q, hq'⟩ : ∃ q, total A.rows = q := ⟨_, rfl⟩
  rw [hq'] at hcall hans
  have HANS := Lib.hid hans
  have HSTEP := Lib.hid hstep
  have HCALL := Lib.hid hcall
  clear hans hstep hcall hq'
  clear hbt hgb hgo hold hsim hb hgr hG hW1 hW2 hs1 hs2 hb1 hb2 pc0 pc pr h2 hg h hrows hwf hk hkey hcn hcv hcs hce hgs
  go_enter Tryz.func10, Tryz.ntmps10
  go_wp2_with (fail)
  rw [HW1.out, HW2.out, HW.out]
  go_wp2_with (fail)
  refine HCALL.out.mono ?_
  rintro e wx ⟨rfl, hbx⟩
  have HX := Lib.hid (H2.out.below hbx)
  have HSX : Hid (Sim s (stepA A c)) := Lib.hid (by rw [HSTEP.out]; exact HSIM.out)
  have HBX := Lib.hid (But.of_below hbx s.of)
  have HNX : Hid (∀ i, s.of i → s.of i ∨ W2.heap.size ≤ i) := Lib.hid (fun i hi => .inl hi)
  clear hbx
  have hrx := HPR.out.but HBX.out (fun h => HGO.out _ h rfl)
  have HRX := Lib.hid hrx
  have z0 : wx.frozen? ⟨g + 1, 0, none⟩ = false := hrx.frozen 0
  have z1 : wx.frozen? ⟨g + 1, 1, none⟩ = false := hrx.frozen 1
  have z2 : wx.frozen? ⟨g + 1, 2, none⟩ = false := hrx.frozen 2
  have y0 : wx.cell? ⟨g + 1, 0, none⟩ = some (.string ⟨#[]⟩) := hrx.cell 0
  have y1 : wx.cell? ⟨g + 1, 1, none⟩ = some (.int .i64 0) := hrx.cell 1
  have y2 : wx.cell? ⟨g + 1, 2, none⟩ = some (.bool false) := hrx.cell 2
  clear hrx
  go_wp2_with (fail)
  have hrr := ((HRX.out.set_ 0 (.string ⟨#[]⟩)).set_ 1 (.int .i64 q)).set_ 2 (.bool false)
  have hfb : But wx (((wx.setCell ⟨g + 1, 0, none⟩ (.string ⟨#[]⟩)).setCell ⟨g + 1, 1, none⟩ (.int .i64 q)).setCell ⟨g + 1, 2, none⟩ (.bool false)) (fun i => i = g + 1) := (((But.refl wx (fun i => i = g + 1)).setCell (p := ⟨g + 1, 0, none⟩) (fun _ => rfl) _).setCell (p := ⟨g + 1, 1, none⟩) (fun _ => rfl) _).setCell (p := ⟨g + 1, 2, none⟩) (fun _ => rfl) _
  refine ⟨rfl, _, results_cell1 Tryz.results10 rfl [.string ⟨#[]⟩, .int .i64 q, .bool false] hrr Tryz.underlying37 rfl sizeSaid, _, ?_, ask_end HBT.out HGB.out HOLD.out HX.out HSX.out rfl rfl HBX.out HNX.out hfb⟩
  rw [HANS.out]
  rfl
set_option maxRecDepth 100000 in
set_option maxHeartbeats 4000000 in
theorem ask_kD (s : StV) (A : AbS) (m : Nat) (on kd : Int) (key : Key) (n : Int) (v0 : ByteArray) (c : CallV) (hce : c = ⟨on, kd, key, n, v0⟩) (w : World) (h : StAt w s) (hsim : Sim s A) (hb : BndA A m) (hm : m ≤ 4000000000000) (hwf : wfI c.n) (hG : HG w) (hgs : ∀ i, s.of i → 0 < i) (hne : kd ≠ 0 ∧ kd ≠ 1 ∧ kd ≠ 2 ∧ kd ≠ 4 ∧ kd ≠ 5 ∧ kd ≠ 6 ∧ kd ≠ 7 ∧ kd ≠ 8) :
    Calls Tryz.prog 10 #[.pointer (some ⟨s.p, 0, none⟩), .agg c.cs.toArray] w (AskQ w s A c) := by
  have hk : c.kind = kd := by rw [hce]
  have hkey : c.key = key := by rw [hce]
  have hcn : c.n = n := by rw [hce]
  have hcv : c.v = v0 := by rw [hce]
  have hcs : c.cs.toArray = #[.int .i64 on, .int .i64 (kd), .int .i64 key.acc, .int .i64 key.ast, .int .i64 n, .string v0] := by rw [hce]; rfl
  rw [hcs]
  have hold : ∀ i, s.of i → i < w.heap.size := fun i hi => h.lt hi
  have hgr : ∀ k, getR s.rows k = getR A.rows k := fun k => getR_perm hsim.rows hb.nd k
  have hrows := hsim.rows
  obtain ⟨g, hg⟩ : ∃ g, w.heap.size = g := ⟨_, rfl⟩
  obtain ⟨W1, hW1⟩ : ∃ X, w.alloc (.cells #[.int .i64 on, .int .i64 (kd), .int .i64 key.acc, .int .i64 key.ast, .int .i64 n, .string v0] 35) = X := ⟨_, rfl⟩
  obtain ⟨W2, hW2⟩ : ∃ X, W1.alloc (.cells #[.string ⟨#[]⟩, .int .i64 0, .bool false] 37) = X := ⟨_, rfl⟩
  have hs1 : W1.heap.size = g + 1 := by rw [← hW1, ← hg]; simp
  have hs2 : W2.heap.size = g + 2 := by rw [← hW2]; simp; omega
  have hb1 : Below w.heap.size w W1 := hW1 ▸ (Below.refl _ _).alloc (Nat.le_refl _) _
  have hb2 : Below W1.heap.size W1 W2 := hW2 ▸ (Below.refl _ _).alloc (Nat.le_refl _) _
  have hbt : Below w.heap.size w W2 := hb1.trans (hb2.mono hb1.size)
  have pc0 : Blk W1 g 35 #[.int .i64 on, .int .i64 (kd), .int .i64 key.acc, .int .i64 key.ast, .int .i64 n, .string v0] := by rw [← hW1, ← hg]; exact Blk.new _ _ _
  have pc := pc0.below hb2 pc0.lt
  have pr : Blk W2 (g + 1) 37 #[.string ⟨#[]⟩, .int .i64 0, .bool false] := by rw [← hW2, ← hs1]; exact Blk.new _ _ _
  have h2 := h.below hbt
  have c1 : W2.cell? ⟨g, 1, none⟩ = some (.int .i64 (kd)) := pc.cell 1
  have c2 : W2.cell? ⟨g, 2, none⟩ = some (.int .i64 key.acc) := pc.cell 2
  have c3 : W2.cell? ⟨g, 3, none⟩ = some (.int .i64 key.ast) := pc.cell 3
  have c4 : W2.cell? ⟨g, 4, none⟩ = some (.int .i64 n) := pc.cell 4
  have c5 : W2.cell? ⟨g, 5, none⟩ = some (.string v0) := pc.cell 5
  have hgb : w.heap.size ≤ g + 1 ∧ g + 1 < W2.heap.size := by omega
  have hgo : ∀ i, s.of i → i ≠ g + 1 := fun i hi e => by have := hold i hi; omega
  have HBT := Lib.hid hbt
  have HGB := Lib.hid hgb
  have HGO := Lib.hid hgo
  have HOLD := Lib.hid hold
  have HSIM := Lib.hid hsim
  have HBA := Lib.hid hb
  have HGR := Lib.hid hgr
  have HG2 := Lib.hid (hG.below hbt)
  have HGS := Lib.hid hgs
  have HW1 := Lib.hid hW1
  have HW2 := Lib.hid hW2
  have HS1 := Lib.hid hs1
  have HPR := Lib.hid pr
  have H2 := Lib.hid h2
  have HW := Lib.hid hg
  have hans : ansA A s.n c = ⟨⟨#[]⟩, s.n, false⟩ := by unfold ansA; rw [hk, if_neg hne.1, if_neg hne.2.1, if_neg hne.2.2.1, if_neg hne.2.2.2.1, if_neg hne.2.2.2.2.1, if_neg hne.2.2.2.2.2.1, if_neg hne.2.2.2.2.2.2.1, if_neg hne.2.2.2.2.2.2.2]
  have hstep : stepA A c = A := by unfold stepA; rw [hk, if_neg hne.1, if_neg hne.2.2.2.1, if_neg hne.2.2.2.2.1, if_neg hne.2.2.2.2.2.2.1]
  have hcall := shards_calls s W2 h2
  have HANS := Lib.hid hans
  have HSTEP := Lib.hid hstep
  have HCALL := Lib.hid hcall
  clear hans hstep hcall
  have e0 : (kd == 0) = false := by simpa using hne.1
  have e1 : (kd == 1) = false := by simpa using hne.2.1
  have e2 : (kd == 2) = false := by simpa using hne.2.2.1
  have e4 : (kd == 4) = false := by simpa using hne.2.2.2.1
  have e5 : (kd == 5) = false := by simpa using hne.2.2.2.2.1
  have e6 : (kd == 6) = false := by simpa using hne.2.2.2.2.2.1
  have e7 : (kd == 7) = false := by simpa using hne.2.2.2.2.2.2.1
  have e8 : (kd == 8) = false := by simpa using hne.2.2.2.2.2.2.2
  clear hne
  clear hbt hgb hgo hold hsim hb hgr hG hW1 hW2 hs1 hs2 hb1 hb2 pc0 pc pr h2 hg h hrows hwf hk hkey hcn hcv hcs hce hgs
  go_enter Tryz.func10, Tryz.ntmps10
  go_wp2_with (fail)
  rw [HW1.out, HW2.out, HW.out]
  go_wp2_with (fail)
  refine HCALL.out.mono ?_
  rintro e wx ⟨rfl, hwx⟩
  have hbx : Below W2.heap.size W2 wx := hwx ▸ Below.refl _ _
  clear hwx
  have HX := Lib.hid (H2.out.below hbx)
  have HSX : Hid (Sim s (stepA A c)) := Lib.hid (by rw [HSTEP.out]; exact HSIM.out)
  have HBX := Lib.hid (But.of_below hbx s.of)
  have HNX : Hid (∀ i, s.of i → s.of i ∨ W2.heap.size ≤ i) := Lib.hid (fun i hi => .inl hi)
  clear hbx
  have hrx := HPR.out.but HBX.out (fun h => HGO.out _ h rfl)
  have HRX := Lib.hid hrx
  have z0 : wx.frozen? ⟨g + 1, 0, none⟩ = false := hrx.frozen 0
  have z1 : wx.frozen? ⟨g + 1, 1, none⟩ = false := hrx.frozen 1
  have z2 : wx.frozen? ⟨g + 1, 2, none⟩ = false := hrx.frozen 2
  have y0 : wx.cell? ⟨g + 1, 0, none⟩ = some (.string ⟨#[]⟩) := hrx.cell 0
  have y1 : wx.cell? ⟨g + 1, 1, none⟩ = some (.int .i64 0) := hrx.cell 1
  have y2 : wx.cell? ⟨g + 1, 2, none⟩ = some (.bool false) := hrx.cell 2
  clear hrx
  go_wp2_with (fail)
  have hrr := ((HRX.out.set_ 0 (.string ⟨#[]⟩)).set_ 1 (.int .i64 s.n)).set_ 2 (.bool false)
  have hfb : But wx (((wx.setCell ⟨g + 1, 0, none⟩ (.string ⟨#[]⟩)).setCell ⟨g + 1, 1, none⟩ (.int .i64 s.n)).setCell ⟨g + 1, 2, none⟩ (.bool false)) (fun i => i = g + 1) := (((But.refl wx (fun i => i = g + 1)).setCell (p := ⟨g + 1, 0, none⟩) (fun _ => rfl) _).setCell (p := ⟨g + 1, 1, none⟩) (fun _ => rfl) _).setCell (p := ⟨g + 1, 2, none⟩) (fun _ => rfl) _
  refine ⟨rfl, _, results_cell1 Tryz.results10 rfl [.string ⟨#[]⟩, .int .i64 s.n, .bool false] hrr Tryz.underlying37 rfl sizeSaid, _, ?_, ask_end HBT.out HGB.out HOLD.out HX.out HSX.out rfl rfl HBX.out HNX.out hfb⟩
  rw [HANS.out]
  rfl
set_option maxRecDepth 100000 in
set_option maxHeartbeats 4000000 in
theorem ask_k0 (s : StV) (A : AbS) (m : Nat) (on : Int) (key : Key) (n : Int) (v0 : ByteArray) (c : CallV) (hce : c = ⟨on, 0, key, n, v0⟩) (w : World) (h : StAt w s) (hsim : Sim s A) (hb : BndA A m) (hm : m ≤ 4000000000000) (hwf : wfI c.n) (hG : HG w) (hgs : ∀ i, s.of i → 0 < i) :
    Calls Tryz.prog 10 #[.pointer (some ⟨s.p, 0, none⟩), .agg c.cs.toArray] w (AskQ w s A c) := by
  have hk : c.kind = 0 := by rw [hce]
  have hkey : c.key = key := by rw [hce]
  have hcn : c.n = n := by rw [hce]
  have hcv : c.v = v0 := by rw [hce]
  have hcs : c.cs.toArray = #[.int .i64 on, .int .i64 (0), .int .i64 key.acc, .int .i64 key.ast, .int .i64 n, .string v0] := by rw [hce]; rfl
  rw [hcs]
  have hold : ∀ i, s.of i → i < w.heap.size := fun i hi => h.lt hi
  have hgr : ∀ k, getR s.rows k = getR A.rows k := fun k => getR_perm hsim.rows hb.nd k
  have hrows := hsim.rows
  obtain ⟨g, hg⟩ : ∃ g, w.heap.size = g := ⟨_, rfl⟩
  obtain ⟨W1, hW1⟩ : ∃ X, w.alloc (.cells #[.int .i64 on, .int .i64 (0), .int .i64 key.acc, .int .i64 key.ast, .int .i64 n, .string v0] 35) = X := ⟨_, rfl⟩
  obtain ⟨W2, hW2⟩ : ∃ X, W1.alloc (.cells #[.string ⟨#[]⟩, .int .i64 0, .bool false] 37) = X := ⟨_, rfl⟩
  have hs1 : W1.heap.size = g + 1 := by rw [← hW1, ← hg]; simp
  have hs2 : W2.heap.size = g + 2 := by rw [← hW2]; simp; omega
  have hb1 : Below w.heap.size w W1 := hW1 ▸ (Below.refl _ _).alloc (Nat.le_refl _) _
  have hb2 : Below W1.heap.size W1 W2 := hW2 ▸ (Below.refl _ _).alloc (Nat.le_refl _) _
  have hbt : Below w.heap.size w W2 := hb1.trans (hb2.mono hb1.size)
  have pc0 : Blk W1 g 35 #[.int .i64 on, .int .i64 (0), .int .i64 key.acc, .int .i64 key.ast, .int .i64 n, .string v0] := by rw [← hW1, ← hg]; exact Blk.new _ _ _
  have pc := pc0.below hb2 pc0.lt
  have pr : Blk W2 (g + 1) 37 #[.string ⟨#[]⟩, .int .i64 0, .bool false] := by rw [← hW2, ← hs1]; exact Blk.new _ _ _
  have h2 := h.below hbt
  have c1 : W2.cell? ⟨g, 1, none⟩ = some (.int .i64 (0)) := pc.cell 1
  have c2 : W2.cell? ⟨g, 2, none⟩ = some (.int .i64 key.acc) := pc.cell 2
  have c3 : W2.cell? ⟨g, 3, none⟩ = some (.int .i64 key.ast) := pc.cell 3
  have c4 : W2.cell? ⟨g, 4, none⟩ = some (.int .i64 n) := pc.cell 4
  have c5 : W2.cell? ⟨g, 5, none⟩ = some (.string v0) := pc.cell 5
  have hgb : w.heap.size ≤ g + 1 ∧ g + 1 < W2.heap.size := by omega
  have hgo : ∀ i, s.of i → i ≠ g + 1 := fun i hi e => by have := hold i hi; omega
  have HBT := Lib.hid hbt
  have HGB := Lib.hid hgb
  have HGO := Lib.hid hgo
  have HOLD := Lib.hid hold
  have HSIM := Lib.hid hsim
  have HBA := Lib.hid hb
  have HGR := Lib.hid hgr
  have HG2 := Lib.hid (hG.below hbt)
  have HGS := Lib.hid hgs
  have HW1 := Lib.hid hW1
  have HW2 := Lib.hid hW2
  have HS1 := Lib.hid hs1
  have HPR := Lib.hid pr
  have H2 := Lib.hid h2
  have HW := Lib.hid hg
  have hans : ansA A s.n c = ⟨⟨#[]⟩, putE (getR A.rows key) n, true⟩ := by unfold ansA; rw [hk, hkey, hcn]; rfl
  have hcall := putS_calls s key n v0 W2 h2 (by rw [hgr]; have := getR_le hb.nd key; have := hb.t; omega)
  unfold PutSQ at hcall
  rw [hgr] at hcall
  obtain ⟨pe, hpe⟩ : ∃ pe, putE (getR A.rows key) n = pe := ⟨_, rfl⟩
  have hp01 : 0 ≤ pe ∧ pe ≤ 24 := by rw [← hpe]; unfold putE; split <;> omega
  rw [hpe] at hcall hans
  have hsim2 : ∀ wx s', PutS W2 wx s s' key n v0 → Sim s' (stepA A c) := fun wx s' hq => hsim.put hb.nd ⟨hk, hkey, hcn, hcv⟩ hq
  have HANS := Lib.hid hans
  have HSIM2 := Lib.hid hsim2
  have HCALL := Lib.hid hcall
  clear hans hcall hpe hsim2
  clear hbt hgb hgo hold hsim hb hgr hG hW1 hW2 hs1 hs2 hb1 hb2 pc0 pc pr h2 hg h hrows hwf hk hkey hcn hcv hcs hce hgs
  go_enter Tryz.func10, Tryz.ntmps10
  go_wp2_with (fail)
  rw [HW1.out, HW2.out, HW.out]
  go_wp2_with (fail)
  refine HCALL.out.mono ?_
  rintro e wp ⟨s', rfl, hq⟩
  have HQ := Lib.hid hq
  clear hq
  go_wp2_with (fail)
  refine (num_errV pe wp hp01.1 hp01.2).mono ?_
  rintro e wp ⟨rfl, rfl⟩
  have hpl := plain_errV pe pe wp hp01.1 hp01.2 (HG2.out.but HQ.out.but HGS.out)
  rw [show (pe == pe) = true by simp] at hpl
  have HPL := Lib.hid hpl
  clear hpl
  go_wp2_with (fail)
  refine HPL.out.mono ?_
  rintro e wx ⟨rfl, hbx⟩
  have HX := Lib.hid (HQ.out.at_.below hbx)
  have HSX := Lib.hid (HSIM2.out wp s' HQ.out)
  have HBX := Lib.hid (HQ.out.but.trans (But.of_below hbx s.of) (fun _ _ h => h))
  have HNX := Lib.hid HQ.out.new
  clear hbx
  have hrx := HPR.out.but HBX.out (fun h => HGO.out _ h rfl)
  have HRX := Lib.hid hrx
  have z0 : wx.frozen? ⟨g + 1, 0, none⟩ = false := hrx.frozen 0
  have z1 : wx.frozen? ⟨g + 1, 1, none⟩ = false := hrx.frozen 1
  have z2 : wx.frozen? ⟨g + 1, 2, none⟩ = false := hrx.frozen 2
  have y0 : wx.cell? ⟨g + 1, 0, none⟩ = some (.string ⟨#[]⟩) := hrx.cell 0
  have y1 : wx.cell? ⟨g + 1, 1, none⟩ = some (.int .i64 0) := hrx.cell 1
  have y2 : wx.cell? ⟨g + 1, 2, none⟩ = some (.bool false) := hrx.cell 2
  clear hrx
  go_wp2_with (fail)
  have hrr := ((HRX.out.set_ 0 (.string ⟨#[]⟩)).set_ 1 (.int .i64 pe)).set_ 2 (.bool true)
  have hfb : But wx (((wx.setCell ⟨g + 1, 0, none⟩ (.string ⟨#[]⟩)).setCell ⟨g + 1, 1, none⟩ (.int .i64 pe)).setCell ⟨g + 1, 2, none⟩ (.bool true)) (fun i => i = g + 1) := (((But.refl wx (fun i => i = g + 1)).setCell (p := ⟨g + 1, 0, none⟩) (fun _ => rfl) _).setCell (p := ⟨g + 1, 1, none⟩) (fun _ => rfl) _).setCell (p := ⟨g + 1, 2, none⟩) (fun _ => rfl) _
  refine ⟨rfl, _, results_cell1 Tryz.results10 rfl [.string ⟨#[]⟩, .int .i64 pe, .bool true] hrr Tryz.underlying37 rfl sizeSaid, _, ?_, ask_end HBT.out HGB.out HOLD.out HX.out HSX.out HQ.out.en HQ.out.ep HBX.out HNX.out hfb⟩
  rw [HANS.out]
  rfl
set_option maxRecDepth 100000 in
set_option maxHeartbeats 4000000 in
theorem ask_k4 (s : StV) (A : AbS) (m : Nat) (on : Int) (key : Key) (n : Int) (v0 : ByteArray) (c : CallV) (hce : c = ⟨on, 4, key, n, v0⟩) (w : World) (h : StAt w s) (hsim : Sim s A) (hb : BndA A m) (hm : m ≤ 4000000000000) (hwf : wfI c.n) (hG : HG w) (hgs : ∀ i, s.of i → 0 < i) :
    Calls Tryz.prog 10 #[.pointer (some ⟨s.p, 0, none⟩), .agg c.cs.toArray] w (AskQ w s A c) := by
  have hk : c.kind = 4 := by rw [hce]
  have hkey : c.key = key := by rw [hce]
  have hcn : c.n = n := by rw [hce]
  have hcv : c.v = v0 := by rw [hce]
  have hcs : c.cs.toArray = #[.int .i64 on, .int .i64 (4), .int .i64 key.acc, .int .i64 key.ast, .int .i64 n, .string v0] := by rw [hce]; rfl
  rw [hcs]
  have hold : ∀ i, s.of i → i < w.heap.size := fun i hi => h.lt hi
  have hgr : ∀ k, getR s.rows k = getR A.rows k := fun k => getR_perm hsim.rows hb.nd k
  have hrows := hsim.rows
  obtain ⟨g, hg⟩ : ∃ g, w.heap.size = g := ⟨_, rfl⟩
  obtain ⟨W1, hW1⟩ : ∃ X, w.alloc (.cells #[.int .i64 on, .int .i64 (4), .int .i64 key.acc, .int .i64 key.ast, .int .i64 n, .string v0] 35) = X := ⟨_, rfl⟩
  obtain ⟨W2, hW2⟩ : ∃ X, W1.alloc (.cells #[.string ⟨#[]⟩, .int .i64 0, .bool false] 37) = X := ⟨_, rfl⟩
  have hs1 : W1.heap.size = g + 1 := by rw [← hW1, ← hg]; simp
  have hs2 : W2.heap.size = g + 2 := by rw [← hW2]; simp; omega
  have hb1 : Below w.heap.size w W1 := hW1 ▸ (Below.refl _ _).alloc (Nat.le_refl _) _
  have hb2 : Below W1.heap.size W1 W2 := hW2 ▸ (Below.refl _ _).alloc (Nat.le_refl _) _
  have hbt : Below w.heap.size w W2 := hb1.trans (hb2.mono hb1.size)
  have pc0 : Blk W1 g 35 #[.int .i64 on, .int .i64 (4), .int .i64 key.acc, .int .i64 key.ast, .int .i64 n, .string v0] := by rw [← hW1, ← hg]; exact Blk.new _ _ _
  have pc := pc0.below hb2 pc0.lt
  have pr : Blk W2 (g + 1) 37 #[.string ⟨#[]⟩, .int .i64 0, .bool false] := by rw [← hW2, ← hs1]; exact Blk.new _ _ _
  have h2 := h.below hbt
  have c1 : W2.cell? ⟨g, 1, none⟩ = some (.int .i64 (4)) := pc.cell 1
  have c2 : W2.cell? ⟨g, 2, none⟩ = some (.int .i64 key.acc) := pc.cell 2
  have c3 : W2.cell? ⟨g, 3, none⟩ = some (.int .i64 key.ast) := pc.cell 3
  have c4 : W2.cell? ⟨g, 4, none⟩ = some (.int .i64 n) := pc.cell 4
  have c5 : W2.cell? ⟨g, 5, none⟩ = some (.string v0) := pc.cell 5
  have hgb : w.heap.size ≤ g + 1 ∧ g + 1 < W2.heap.size := by omega
  have hgo : ∀ i, s.of i → i ≠ g + 1 := fun i hi e => by have := hold i hi; omega
  have HBT := Lib.hid hbt
  have HGB := Lib.hid hgb
  have HGO := Lib.hid hgo
  have HOLD := Lib.hid hold
  have HSIM := Lib.hid hsim
  have HBA := Lib.hid hb
  have HGR := Lib.hid hgr
  have HG2 := Lib.hid (hG.below hbt)
  have HGS := Lib.hid hgs
  have HW1 := Lib.hid hW1
  have HW2 := Lib.hid hW2
  have HS1 := Lib.hid hs1
  have HPR := Lib.hid pr
  have H2 := Lib.hid h2
  have HW := Lib.hid hg
  have hans : ansA A s.n c = ⟨⟨#[]⟩, (A.bg : Int) + 1, false⟩ := by unfold ansA; rw [hk]; rfl
  have hcall := openS_calls s n W2 h2 (by rw [hsim.bg]; have := hb.b; omega)
  unfold OpenSQ at hcall
  rw [hsim.bg, hsim.R] at hcall
  obtain ⟨q, hq'⟩ : ∃ q, (A.bg : Int) + 1 = q := ⟨_, rfl⟩
  rw [hq'] at hcall hans
  have hsim2 : ∀ wx s', TurnS W2 wx s s' ∧ s'.R = A.R ++ [(q, n)] ∧ s'.bg = A.bg + 1 → Sim s' (stepA A c) := fun wx s' hq => by
    have : stepA A c = { A with R := A.R ++ [((A.bg : Int) + 1, n)], bg := A.bg + 1 } := by unfold stepA; rw [hk, hcn]; rfl
    rw [this]
    refine ⟨?_, ?_, hq.2.2⟩
    · rw [hq.1.erows]; exact hsim.rows
    · show s'.R = A.R ++ [((A.bg : Int) + 1, n)]
      rw [hq'] ; exact hq.2.1
  have HANS := Lib.hid hans
  have HSIM2 := Lib.hid hsim2
  have HCALL := Lib.hid hcall
  clear hans hcall hsim2 hq'
  clear hbt hgb hgo hold hsim hb hgr hG hW1 hW2 hs1 hs2 hb1 hb2 pc0 pc pr h2 hg h hrows hwf hk hkey hcn hcv hcs hce hgs
  go_enter Tryz.func10, Tryz.ntmps10
  go_wp2_with (fail)
  rw [HW1.out, HW2.out, HW.out]
  go_wp2_with (fail)
  refine HCALL.out.mono ?_
  rintro e wx ⟨s', rfl, hq⟩
  have HQ := Lib.hid hq
  clear hq
  have HX := Lib.hid (HQ.out.1.at_)
  have HSX := Lib.hid (HSIM2.out wx s' HQ.out)
  have HBX := Lib.hid (HQ.out.1.but)
  have HNX := Lib.hid HQ.out.1.new
  have hrx := HPR.out.but HBX.out (fun h => HGO.out _ h rfl)
  have HRX := Lib.hid hrx
  have z0 : wx.frozen? ⟨g + 1, 0, none⟩ = false := hrx.frozen 0
  have z1 : wx.frozen? ⟨g + 1, 1, none⟩ = false := hrx.frozen 1
  have z2 : wx.frozen? ⟨g + 1, 2, none⟩ = false := hrx.frozen 2
  have y0 : wx.cell? ⟨g + 1, 0, none⟩ = some (.string ⟨#[]⟩) := hrx.cell 0
  have y1 : wx.cell? ⟨g + 1, 1, none⟩ = some (.int .i64 0) := hrx.cell 1
  have y2 : wx.cell? ⟨g + 1, 2, none⟩ = some (.bool false) := hrx.cell 2
  clear hrx
  go_wp2_with (fail)
  have hrr := ((HRX.out.set_ 0 (.string ⟨#[]⟩)).set_ 1 (.int .i64 q)).set_ 2 (.bool false)
  have hfb : But wx (((wx.setCell ⟨g + 1, 0, none⟩ (.string ⟨#[]⟩)).setCell ⟨g + 1, 1, none⟩ (.int .i64 q)).setCell ⟨g + 1, 2, none⟩ (.bool false)) (fun i => i = g + 1) := (((But.refl wx (fun i => i = g + 1)).setCell (p := ⟨g + 1, 0, none⟩) (fun _ => rfl) _).setCell (p := ⟨g + 1, 1, none⟩) (fun _ => rfl) _).setCell (p := ⟨g + 1, 2, none⟩) (fun _ => rfl) _
  refine ⟨rfl, _, results_cell1 Tryz.results10 rfl [.string ⟨#[]⟩, .int .i64 q, .bool false] hrr Tryz.underlying37 rfl sizeSaid, _, ?_, ask_end HBT.out HGB.out HOLD.out HX.out HSX.out HQ.out.1.en HQ.out.1.ep HBX.out HNX.out hfb⟩
  rw [HANS.out]
  rfl
set_option maxRecDepth 100000 in
set_option maxHeartbeats 4000000 in
theorem ask_k5 (s : StV) (A : AbS) (m : Nat) (on : Int) (key : Key) (n : Int) (v0 : ByteArray) (c : CallV) (hce : c = ⟨on, 5, key, n, v0⟩) (w : World) (h : StAt w s) (hsim : Sim s A) (hb : BndA A m) (hm : m ≤ 4000000000000) (hwf : wfI c.n) (hG : HG w) (hgs : ∀ i, s.of i → 0 < i) :
    Calls Tryz.prog 10 #[.pointer (some ⟨s.p, 0, none⟩), .agg c.cs.toArray] w (AskQ w s A c) := by
  have hk : c.kind = 5 := by rw [hce]
  have hkey : c.key = key := by rw [hce]
  have hcn : c.n = n := by rw [hce]
  have hcv : c.v = v0 := by rw [hce]
  have hcs : c.cs.toArray = #[.int .i64 on, .int .i64 (5), .int .i64 key.acc, .int .i64 key.ast, .int .i64 n, .string v0] := by rw [hce]; rfl
  rw [hcs]
  have hold : ∀ i, s.of i → i < w.heap.size := fun i hi => h.lt hi
  have hgr : ∀ k, getR s.rows k = getR A.rows k := fun k => getR_perm hsim.rows hb.nd k
  have hrows := hsim.rows
  obtain ⟨g, hg⟩ : ∃ g, w.heap.size = g := ⟨_, rfl⟩
  obtain ⟨W1, hW1⟩ : ∃ X, w.alloc (.cells #[.int .i64 on, .int .i64 (5), .int .i64 key.acc, .int .i64 key.ast, .int .i64 n, .string v0] 35) = X := ⟨_, rfl⟩
  obtain ⟨W2, hW2⟩ : ∃ X, W1.alloc (.cells #[.string ⟨#[]⟩, .int .i64 0, .bool false] 37) = X := ⟨_, rfl⟩
  have hs1 : W1.heap.size = g + 1 := by rw [← hW1, ← hg]; simp
  have hs2 : W2.heap.size = g + 2 := by rw [← hW2]; simp; omega
  have hb1 : Below w.heap.size w W1 := hW1 ▸ (Below.refl _ _).alloc (Nat.le_refl _) _
  have hb2 : Below W1.heap.size W1 W2 := hW2 ▸ (Below.refl _ _).alloc (Nat.le_refl _) _
  have hbt : Below w.heap.size w W2 := hb1.trans (hb2.mono hb1.size)
  have pc0 : Blk W1 g 35 #[.int .i64 on, .int .i64 (5), .int .i64 key.acc, .int .i64 key.ast, .int .i64 n, .string v0] := by rw [← hW1, ← hg]; exact Blk.new _ _ _
  have pc := pc0.below hb2 pc0.lt
  have pr : Blk W2 (g + 1) 37 #[.string ⟨#[]⟩, .int .i64 0, .bool false] := by rw [← hW2, ← hs1]; exact Blk.new _ _ _
  have h2 := h.below hbt
  have c1 : W2.cell? ⟨g, 1, none⟩ = some (.int .i64 (5)) := pc.cell 1
  have c2 : W2.cell? ⟨g, 2, none⟩ = some (.int .i64 key.acc) := pc.cell 2
  have c3 : W2.cell? ⟨g, 3, none⟩ = some (.int .i64 key.ast) := pc.cell 3
  have c4 : W2.cell? ⟨g, 4, none⟩ = some (.int .i64 n) := pc.cell 4
  have c5 : W2.cell? ⟨g, 5, none⟩ = some (.string v0) := pc.cell 5
  have hgb : w.heap.size ≤ g + 1 ∧ g + 1 < W2.heap.size := by omega
  have hgo : ∀ i, s.of i → i ≠ g + 1 := fun i hi e => by have := hold i hi; omega
  have HBT := Lib.hid hbt
  have HGB := Lib.hid hgb
  have HGO := Lib.hid hgo
  have HOLD := Lib.hid hold
  have HSIM := Lib.hid hsim
  have HBA := Lib.hid hb
  have HGR := Lib.hid hgr
  have HG2 := Lib.hid (hG.below hbt)
  have HGS := Lib.hid hgs
  have HW1 := Lib.hid hW1
  have HW2 := Lib.hid hW2
  have HS1 := Lib.hid hs1
  have HPR := Lib.hid pr
  have H2 := Lib.hid h2
  have HW := Lib.hid hg
  have hans : ansA A s.n c = ⟨⟨#[]⟩, 0, (mget A.R n).isSome⟩ := by unfold ansA; rw [hk, hcn]; rfl
  have hcall := closeS_calls s n W2 h2 (by rw [← hcn]; exact hwf)
  unfold CloseSQ at hcall
  rw [hsim.bg, hsim.R] at hcall
  obtain ⟨b, hb'⟩ : ∃ b, (mget A.R n).isSome = b := ⟨_, rfl⟩
  rw [hb'] at hcall hans
  have hsim2 : ∀ wx s', TurnS W2 wx s s' ∧ s'.R = mdel A.R n ∧ s'.bg = A.bg → Sim s' (stepA A c) := fun wx s' hq => by
    have : stepA A c = { A with R := mdel A.R n } := by unfold stepA; rw [hk, hcn]; rfl
    rw [this]
    refine ⟨?_, hq.2.1, hq.2.2⟩
    rw [hq.1.erows]; exact hsim.rows
  have HANS := Lib.hid hans
  have HSIM2 := Lib.hid hsim2
  have HCALL := Lib.hid hcall
  clear hans hcall hsim2 hb'
  clear hbt hgb hgo hold hsim hb hgr hG hW1 hW2 hs1 hs2 hb1 hb2 pc0 pc pr h2 hg h hrows hwf hk hkey hcn hcv hcs hce hgs
  go_enter Tryz.func10, Tryz.ntmps10
  go_wp2_with (fail)
  rw [HW1.out, HW2.out, HW.out]
  go_wp2_with (fail)
  refine HCALL.out.mono ?_
  rintro e wx ⟨s', rfl, hq⟩
  have HQ := Lib.hid hq
  clear hq
  have HX := Lib.hid (HQ.out.1.at_)
  have HSX := Lib.hid (HSIM2.out wx s' HQ.out)
  have HBX := Lib.hid (HQ.out.1.but)
  have HNX := Lib.hid HQ.out.1.new
  have hrx := HPR.out.but HBX.out (fun h => HGO.out _ h rfl)
  have HRX := Lib.hid hrx
  have z0 : wx.frozen? ⟨g + 1, 0, none⟩ = false := hrx.frozen 0
  have z1 : wx.frozen? ⟨g + 1, 1, none⟩ = false := hrx.frozen 1
  have z2 : wx.frozen? ⟨g + 1, 2, none⟩ = false := hrx.frozen 2
  have y0 : wx.cell? ⟨g + 1, 0, none⟩ = some (.string ⟨#[]⟩) := hrx.cell 0
  have y1 : wx.cell? ⟨g + 1, 1, none⟩ = some (.int .i64 0) := hrx.cell 1
  have y2 : wx.cell? ⟨g + 1, 2, none⟩ = some (.bool false) := hrx.cell 2
  clear hrx
  go_wp2_with (fail)
  have hrr := ((HRX.out.set_ 0 (.string ⟨#[]⟩)).set_ 1 (.int .i64 0)).set_ 2 (.bool b)
  have hfb : But wx (((wx.setCell ⟨g + 1, 0, none⟩ (.string ⟨#[]⟩)).setCell ⟨g + 1, 1, none⟩ (.int .i64 0)).setCell ⟨g + 1, 2, none⟩ (.bool b)) (fun i => i = g + 1) := (((But.refl wx (fun i => i = g + 1)).setCell (p := ⟨g + 1, 0, none⟩) (fun _ => rfl) _).setCell (p := ⟨g + 1, 1, none⟩) (fun _ => rfl) _).setCell (p := ⟨g + 1, 2, none⟩) (fun _ => rfl) _
  refine ⟨rfl, _, results_cell1 Tryz.results10 rfl [.string ⟨#[]⟩, .int .i64 0, .bool b] hrr Tryz.underlying37 rfl sizeSaid, _, ?_, ask_end HBT.out HGB.out HOLD.out HX.out HSX.out HQ.out.1.en HQ.out.1.ep HBX.out HNX.out hfb⟩
  rw [HANS.out]
  rfl
set_option maxRecDepth 100000 in
set_option maxHeartbeats 4000000 in
theorem ask_k7 (s : StV) (A : AbS) (m : Nat) (on : Int) (key : Key) (n : Int) (v0 : ByteArray) (c : CallV) (hce : c = ⟨on, 7, key, n, v0⟩) (w : World) (h : StAt w s) (hsim : Sim s A) (hb : BndA A m) (hm : m ≤ 4000000000000) (hwf : wfI c.n) (hG : HG w) (hgs : ∀ i, s.of i → 0 < i) :
    Calls Tryz.prog 10 #[.pointer (some ⟨s.p, 0, none⟩), .agg c.cs.toArray] w (AskQ w s A c) := by
  have hk : c.kind = 7 := by rw [hce]
  have hkey : c.key = key := by rw [hce]
  have hcn : c.n = n := by rw [hce]
  have hcv : c.v = v0 := by rw [hce]
  have hcs : c.cs.toArray = #[.int .i64 on, .int .i64 (7), .int .i64 key.acc, .int .i64 key.ast, .int .i64 n, .string v0] := by rw [hce]; rfl
  rw [hcs]
  have hold : ∀ i, s.of i → i < w.heap.size := fun i hi => h.lt hi
  have hgr : ∀ k, getR s.rows k = getR A.rows k := fun k => getR_perm hsim.rows hb.nd k
  have hrows := hsim.rows
  obtain ⟨g, hg⟩ : ∃ g, w.heap.size = g := ⟨_, rfl⟩
  obtain ⟨W1, hW1⟩ : ∃ X, w.alloc (.cells #[.int .i64 on, .int .i64 (7), .int .i64 key.acc, .int .i64 key.ast, .int .i64 n, .string v0] 35) = X := ⟨_, rfl⟩
  obtain ⟨W2, hW2⟩ : ∃ X, W1.alloc (.cells #[.string ⟨#[]⟩, .int .i64 0, .bool false] 37) = X := ⟨_, rfl⟩
  have hs1 : W1.heap.size = g + 1 := by rw [← hW1, ← hg]; simp
  have hs2 : W2.heap.size = g + 2 := by rw [← hW2]; simp; omega
  have hb1 : Below w.heap.size w W1 := hW1 ▸ (Below.refl _ _).alloc (Nat.le_refl _) _
  have hb2 : Below W1.heap.size W1 W2 := hW2 ▸ (Below.refl _ _).alloc (Nat.le_refl _) _
  have hbt : Below w.heap.size w W2 := hb1.trans (hb2.mono hb1.size)
  have pc0 : Blk W1 g 35 #[.int .i64 on, .int .i64 (7), .int .i64 key.acc, .int .i64 key.ast, .int .i64 n, .string v0] := by rw [← hW1, ← hg]; exact Blk.new _ _ _
  have pc := pc0.below hb2 pc0.lt
  have pr : Blk W2 (g + 1) 37 #[.string ⟨#[]⟩, .int .i64 0, .bool false] := by rw [← hW2, ← hs1]; exact Blk.new _ _ _
  have h2 := h.below hbt
  have c1 : W2.cell? ⟨g, 1, none⟩ = some (.int .i64 (7)) := pc.cell 1
  have c2 : W2.cell? ⟨g, 2, none⟩ = some (.int .i64 key.acc) := pc.cell 2
  have c3 : W2.cell? ⟨g, 3, none⟩ = some (.int .i64 key.ast) := pc.cell 3
  have c4 : W2.cell? ⟨g, 4, none⟩ = some (.int .i64 n) := pc.cell 4
  have c5 : W2.cell? ⟨g, 5, none⟩ = some (.string v0) := pc.cell 5
  have hgb : w.heap.size ≤ g + 1 ∧ g + 1 < W2.heap.size := by omega
  have hgo : ∀ i, s.of i → i ≠ g + 1 := fun i hi e => by have := hold i hi; omega
  have HBT := Lib.hid hbt
  have HGB := Lib.hid hgb
  have HGO := Lib.hid hgo
  have HOLD := Lib.hid hold
  have HSIM := Lib.hid hsim
  have HBA := Lib.hid hb
  have HGR := Lib.hid hgr
  have HG2 := Lib.hid (hG.below hbt)
  have HGS := Lib.hid hgs
  have HW1 := Lib.hid hW1
  have HW2 := Lib.hid hW2
  have HS1 := Lib.hid hs1
  have HPR := Lib.hid pr
  have H2 := Lib.hid h2
  have HW := Lib.hid hg
  have hans : ansA A s.n c = ⟨⟨#[]⟩, pruneN (getR A.rows key) (minL n A.R), false⟩ := by unfold ansA; rw [hk, hkey, hcn]; rfl
  have hcall := pruneS_calls s key n W2 h2
  unfold PruneSQ at hcall
  rw [hsim.R, hgr] at hcall
  obtain ⟨mn, hmn'⟩ : ∃ mn, minL n A.R = mn := ⟨_, rfl⟩
  rw [hmn'] at hcall hans
  obtain ⟨q, hq'⟩ : ∃ q, pruneN (getR A.rows key) mn = q := ⟨_, rfl⟩
  rw [hq'] at hcall hans
  have hsim2 : ∀ wx s', PruneS W2 wx s s' key mn → Sim s' (stepA A c) := fun wx s' hq => by
    have : stepA A c = { A with rows := prR A.rows key mn } := by unfold stepA; rw [hk, hkey, hcn, hmn']; rfl
    rw [this]
    refine ⟨?_, hq.eR.trans hsim.R, hq.ebg.trans hsim.bg⟩
    rw [hq.erows]; exact prR_perm hsim.rows hb.nd
  have HANS := Lib.hid hans
  have HSIM2 := Lib.hid hsim2
  have HCALL := Lib.hid hcall
  clear hans hcall hsim2 hmn' hq'
  clear hbt hgb hgo hold hsim hb hgr hG hW1 hW2 hs1 hs2 hb1 hb2 pc0 pc pr h2 hg h hrows hwf hk hkey hcn hcv hcs hce hgs
  go_enter Tryz.func10, Tryz.ntmps10
  go_wp2_with (fail)
  rw [HW1.out, HW2.out, HW.out]
  go_wp2_with (fail)
  refine HCALL.out.mono ?_
  rintro e wx ⟨s', rfl, hq⟩
  have HQ := Lib.hid hq
  clear hq
  have HX := Lib.hid (HQ.out.at_)
  have HSX := Lib.hid (HSIM2.out wx s' HQ.out)
  have HBX := Lib.hid (HQ.out.but)
  have HNX := Lib.hid HQ.out.new
  have hrx := HPR.out.but HBX.out (fun h => HGO.out _ h rfl)
  have HRX := Lib.hid hrx
  have z0 : wx.frozen? ⟨g + 1, 0, none⟩ = false := hrx.frozen 0
  have z1 : wx.frozen? ⟨g + 1, 1, none⟩ = false := hrx.frozen 1
  have z2 : wx.frozen? ⟨g + 1, 2, none⟩ = false := hrx.frozen 2
  have y0 : wx.cell? ⟨g + 1, 0, none⟩ = some (.string ⟨#[]⟩) := hrx.cell 0
  have y1 : wx.cell? ⟨g + 1, 1, none⟩ = some (.int .i64 0) := hrx.cell 1
  have y2 : wx.cell? ⟨g + 1, 2, none⟩ = some (.bool false) := hrx.cell 2
  clear hrx
  go_wp2_with (fail)
  have hrr := ((HRX.out.set_ 0 (.string ⟨#[]⟩)).set_ 1 (.int .i64 q)).set_ 2 (.bool false)
  have hfb : But wx (((wx.setCell ⟨g + 1, 0, none⟩ (.string ⟨#[]⟩)).setCell ⟨g + 1, 1, none⟩ (.int .i64 q)).setCell ⟨g + 1, 2, none⟩ (.bool false)) (fun i => i = g + 1) := (((But.refl wx (fun i => i = g + 1)).setCell (p := ⟨g + 1, 0, none⟩) (fun _ => rfl) _).setCell (p := ⟨g + 1, 1, none⟩) (fun _ => rfl) _).setCell (p := ⟨g + 1, 2, none⟩) (fun _ => rfl) _
  refine ⟨rfl, _, results_cell1 Tryz.results10 rfl [.string ⟨#[]⟩, .int .i64 q, .bool false] hrr Tryz.underlying37 rfl sizeSaid, _, ?_, ask_end HBT.out HGB.out HOLD.out HX.out HSX.out HQ.out.en HQ.out.ep HBX.out HNX.out hfb⟩
  rw [HANS.out]
  rfl
theorem ask_calls (s : StV) (A : AbS) (m : Nat) (c : CallV) (w : World) (h : StAt w s) (hsim : Sim s A) (hb : BndA A m) (hm : m ≤ 4000000000000) (hwf : wfI c.n) (hG : HG w) (hgs : ∀ i, s.of i → 0 < i) :
    Calls Tryz.prog 10 #[.pointer (some ⟨s.p, 0, none⟩), .agg c.cs.toArray] w (AskQ w s A c) := by
  obtain ⟨on, kd, key, n, v0⟩ := c
  by_cases h0 : kd = 0
  · subst h0; exact ask_k0 s A m on key n v0 _ rfl w h hsim hb hm hwf hG hgs
  by_cases h1 : kd = 1
  · subst h1; exact ask_k1 s A m on key n v0 _ rfl w h hsim hb hm hwf hG hgs
  by_cases h2 : kd = 2
  · subst h2; exact ask_k2 s A m on key n v0 _ rfl w h hsim hb hm hwf hG hgs
  by_cases h4 : kd = 4
  · subst h4; exact ask_k4 s A m on key n v0 _ rfl w h hsim hb hm hwf hG hgs
  by_cases h5 : kd = 5
  · subst h5; exact ask_k5 s A m on key n v0 _ rfl w h hsim hb hm hwf hG hgs
  by_cases h6 : kd = 6
  · subst h6; exact ask_k6 s A m on key n v0 _ rfl w h hsim hb hm hwf hG hgs
  by_cases h7 : kd = 7
  · subst h7; exact ask_k7 s A m on key n v0 _ rfl w h hsim hb hm hwf hG hgs
  by_cases h8 : kd = 8
  · subst h8; exact ask_k8 s A m on key n v0 _ rfl w h hsim hb hm hwf hG hgs
  exact ask_kD s A m on kd key n v0 _ rfl w h hsim hb hm hwf hG hgs ⟨h0, h1, h2, h4, h5, h6, h7, h8⟩
end Go.Proofs.YtflkddllofeiaaaGreatDoor
