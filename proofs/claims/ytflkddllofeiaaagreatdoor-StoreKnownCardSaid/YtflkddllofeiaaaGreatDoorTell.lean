/- custodylaw11's tell by a contract (printed by gen_tell11.py). -/
import Derived.Test.YtflkddllofeiaaaGreatDoorRs4
import Derived.Test.YtflkddllofeiaaaGreatDoorAsk
import Derived.Deep.DeepCutAuto
import Derived.Deep.CutBlock
namespace Go.Proofs.YtflkddllofeiaaaGreatDoor
set_option linter.unusedSimpArgs false
set_option linter.unusedVariables false
open Go.RowKit Go.MapKept Go.ChangeMaps Go.Maps

/-- The document's store holds A. -/
structure RSim (r : RS) (A : AbS) : Prop where
  rows : r.rowsA = A.rows
  R : openR 0 r.rds = A.R
  bg : r.rds.length = A.bg
structure TellS (w w' : World) (r r' : RS) (A' : AbS) : Prop where
  at_ : RSAt w' r'
  sim : RSim r' A'
  p : r'.p = r.p
  sh : r'.sh = r.sh
  but : But w w' r.of
  new : ∀ i, r'.of i → r.of i ∨ w.heap.size ≤ i
def TellQ (w : World) (r : RS) (A : AbS) (ns : Nat) (c : CallV) (e : Ending) (w' : World) : Prop := ∃ r', e = .returned (.agg (ansA A ns c).cs.toArray) ∧ TellS w w' r r' (stepA A c)
theorem tell_end {w W wx wf : World} {r r' : RS} {A' : AbS} {g : Nat} (hb : Below w.heap.size w W) (hg : w.heap.size ≤ g ∧ g < W.heap.size) (hold : ∀ i, r.of i → i < w.heap.size) (h : TurnR W wx r r') (hs : RSim r' A')
    (hf : But wx wf (fun i => i = g)) : TellS w wf r r' A' := by
  have hng : ∀ i, r'.of i → i ≠ g := fun i hi e => by
    subst e
    rcases h.new i hi with h1 | h1
    · have := hold i h1; omega
    · omega
  exact ⟨h.at_.but hf hng, hs, h.p, h.sh, ((But.of_below hb r.of).trans h.but (fun _ _ h => h)).trans hf (fun i hi e => by omega), fun i hi => (h.new i hi).imp (fun h => h) (fun h => Nat.le_trans hb.size h)⟩
set_option maxRecDepth 100000 in
set_option maxHeartbeats 4000000 in
theorem tell_k1 (r : RS) (A : AbS) (m ns : Nat) (on : Int) (key : Key) (n : Int) (v0 : ByteArray) (c : CallV) (hce : c = ⟨on, 1, key, n, v0⟩) (w : World) (h : RSAt w r) (hsim : RSim r A) (hsh : r.sh = ns) (hb : BndA A m) (hm : m ≤ 3000000000000) (hwf : c.n ≤ 9223372036854775807) :
    Calls Tryz.prog 11 #[.pointer (some ⟨r.p, 0, none⟩), .agg c.cs.toArray] w (TellQ w r A ns c) := by
  have hk : c.kind = 1 := by rw [hce]
  have hkey : c.key = key := by rw [hce]
  have hcn : c.n = n := by rw [hce]
  have hcv : c.v = v0 := by rw [hce]
  have hcs : c.cs.toArray = #[.int .i64 on, .int .i64 (1), .int .i64 key.acc, .int .i64 key.ast, .int .i64 n, .string v0] := by rw [hce]; rfl
  rw [hcs]
  have hold : ∀ i, r.of i → i < w.heap.size := fun i hi => h.lt hi
  have hrows := hsim.rows
  have hrl : r.rows.length ≤ m := by have := hb.r; rw [← hrows] at this; unfold RS.rowsA at this; simpa using this
  have hdl : r.rds.length ≤ m := by rw [hsim.bg]; exact hb.b
  have hgl : (getR r.rowsA key).length ≤ m := by rw [hrows]; exact Nat.le_trans (getR_le hb.nd key) hb.t
  obtain ⟨g, hg⟩ : ∃ g, w.heap.size = g := ⟨_, rfl⟩
  obtain ⟨W1, hW1⟩ : ∃ X, w.alloc (.cells #[.int .i64 on, .int .i64 (1), .int .i64 key.acc, .int .i64 key.ast, .int .i64 n, .string v0] 35) = X := ⟨_, rfl⟩
  obtain ⟨W2, hW2⟩ : ∃ X, W1.alloc (.cells #[.string ⟨#[]⟩, .int .i64 0, .bool false] 37) = X := ⟨_, rfl⟩
  have hs1 : W1.heap.size = g + 1 := by rw [← hW1, ← hg]; simp
  have hs2 : W2.heap.size = g + 2 := by rw [← hW2]; simp; omega
  have hb1 : Below w.heap.size w W1 := hW1 ▸ (Below.refl _ _).alloc (Nat.le_refl _) _
  have hb2 : Below W1.heap.size W1 W2 := hW2 ▸ (Below.refl _ _).alloc (Nat.le_refl _) _
  have hbt : Below w.heap.size w W2 := hb1.trans (hb2.mono hb1.size)
  have pc0 : Blk W1 g 35 #[.int .i64 on, .int .i64 (1), .int .i64 key.acc, .int .i64 key.ast, .int .i64 n, .string v0] := by rw [← hW1, ← hg]; exact Blk.new _ _ _
  have pc := pc0.below hb2 pc0.lt
  have pr : Blk W2 (g + 1) 37 #[.string ⟨#[]⟩, .int .i64 0, .bool false] := by rw [← hW2, ← hs1]; exact Blk.new _ _ _
  have h2 := h.below hbt
  have c1 : W2.cell? ⟨g, 1, none⟩ = some (.int .i64 (1)) := pc.cell 1
  have c2 : W2.cell? ⟨g, 2, none⟩ = some (.int .i64 key.acc) := pc.cell 2
  have c3 : W2.cell? ⟨g, 3, none⟩ = some (.int .i64 key.ast) := pc.cell 3
  have c4 : W2.cell? ⟨g, 4, none⟩ = some (.int .i64 n) := pc.cell 4
  have c5 : W2.cell? ⟨g, 5, none⟩ = some (.string v0) := pc.cell 5
  have c6 : W2.cell? ⟨r.p, 0, none⟩ = some (.int .i64 ns) := by rw [h2.blk.cell 0, hsh]; rfl
  have hgb : w.heap.size ≤ g + 1 ∧ g + 1 < W2.heap.size := by omega
  have hgo : ∀ i, r.of i → i ≠ g + 1 := fun i hi e => by have := hold i hi; omega
  have HBT := Lib.hid hbt
  have HGB := Lib.hid hgb
  have HGO := Lib.hid hgo
  have HOLD := Lib.hid hold
  have HSIM := Lib.hid hsim
  have HW1 := Lib.hid hW1
  have HW2 := Lib.hid hW2
  have HPR := Lib.hid pr
  have H2 := Lib.hid h2
  have HW := Lib.hid hg
  have hans : ansA A ns c = ⟨atV (getR A.rows key) n, 0, decide (0 < leN (getR A.rows key) n)⟩ := by unfold ansA; rw [hk, hkey, hcn]; rfl
  have hstep : stepA A c = A := by unfold stepA; rw [hk]; rfl
  have hcall := ratS_calls r key n W2 h2 (by omega) (by omega)
  rw [hrows] at hcall
  obtain ⟨v, hv'⟩ : ∃ v, atV (getR A.rows key) n = v := ⟨_, rfl⟩
  rw [hv'] at hcall hans
  obtain ⟨b, hb'⟩ : ∃ b, decide (0 < leN (getR A.rows key) n) = b := ⟨_, rfl⟩
  rw [hb'] at hcall hans
  have HANS := Lib.hid hans
  have HSTEP := Lib.hid hstep
  have HCALL := Lib.hid hcall
  clear hans hstep hcall hv' hb'
  clear hbt hgb hgo hold hsim hb hW1 hW2 hs1 hs2 hb1 hb2 pc0 pc pr h2 hg h hrows hwf hk hkey hcn hcv hcs hce hsh hrl hdl hgl
  go_enter Tryz.func11, Tryz.ntmps11
  go_wp2_with (fail)
  rw [HW1.out, HW2.out, HW.out]
  go_wp2_with (fail)
  refine HCALL.out.mono ?_
  rintro e wx ⟨rfl, hbx⟩
  have HT := Lib.hid (TurnR.below H2.out hbx)
  have HSX : Hid (RSim r (stepA A c)) := Lib.hid (by rw [HSTEP.out]; exact HSIM.out)
  clear hbx
  have hrx := HPR.out.but HT.out.but (fun h => HGO.out _ h rfl)
  have HRX := Lib.hid hrx
  have z0 : wx.frozen? ⟨g + 1, 0, none⟩ = false := hrx.frozen 0
  have z1 : wx.frozen? ⟨g + 1, 1, none⟩ = false := hrx.frozen 1
  have z2 : wx.frozen? ⟨g + 1, 2, none⟩ = false := hrx.frozen 2
  have y0 : wx.cell? ⟨g + 1, 0, none⟩ = some (.string ⟨#[]⟩) := hrx.cell 0
  have y1 : wx.cell? ⟨g + 1, 1, none⟩ = some (.int .i64 0) := hrx.cell 1
  have y2 : wx.cell? ⟨g + 1, 2, none⟩ = some (.bool false) := hrx.cell 2
  clear hrx
  go_wp2_with (fail)
  have hrr := ((HRX.out.set_ 0 (.string v)).set_ 1 (.int .i64 0)).set_ 2 (.bool b)
  have hfb : But wx (((wx.setCell ⟨g + 1, 0, none⟩ (.string v)).setCell ⟨g + 1, 1, none⟩ (.int .i64 0)).setCell ⟨g + 1, 2, none⟩ (.bool b)) (fun i => i = g + 1) := (((But.refl wx (fun i => i = g + 1)).setCell (p := ⟨g + 1, 0, none⟩) (fun _ => rfl) _).setCell (p := ⟨g + 1, 1, none⟩) (fun _ => rfl) _).setCell (p := ⟨g + 1, 2, none⟩) (fun _ => rfl) _
  refine ⟨rfl, _, results_cell1 Tryz.results11 rfl [.string v, .int .i64 0, .bool b] hrr Tryz.underlying37 rfl sizeSaid, _, ?_, tell_end HBT.out HGB.out HOLD.out HT.out HSX.out hfb⟩
  rw [HANS.out]
  rfl
set_option maxRecDepth 100000 in
set_option maxHeartbeats 4000000 in
theorem tell_k2 (r : RS) (A : AbS) (m ns : Nat) (on : Int) (key : Key) (n : Int) (v0 : ByteArray) (c : CallV) (hce : c = ⟨on, 2, key, n, v0⟩) (w : World) (h : RSAt w r) (hsim : RSim r A) (hsh : r.sh = ns) (hb : BndA A m) (hm : m ≤ 3000000000000) (hwf : c.n ≤ 9223372036854775807) :
    Calls Tryz.prog 11 #[.pointer (some ⟨r.p, 0, none⟩), .agg c.cs.toArray] w (TellQ w r A ns c) := by
  have hk : c.kind = 2 := by rw [hce]
  have hkey : c.key = key := by rw [hce]
  have hcn : c.n = n := by rw [hce]
  have hcv : c.v = v0 := by rw [hce]
  have hcs : c.cs.toArray = #[.int .i64 on, .int .i64 (2), .int .i64 key.acc, .int .i64 key.ast, .int .i64 n, .string v0] := by rw [hce]; rfl
  rw [hcs]
  have hold : ∀ i, r.of i → i < w.heap.size := fun i hi => h.lt hi
  have hrows := hsim.rows
  have hrl : r.rows.length ≤ m := by have := hb.r; rw [← hrows] at this; unfold RS.rowsA at this; simpa using this
  have hdl : r.rds.length ≤ m := by rw [hsim.bg]; exact hb.b
  have hgl : (getR r.rowsA key).length ≤ m := by rw [hrows]; exact Nat.le_trans (getR_le hb.nd key) hb.t
  obtain ⟨g, hg⟩ : ∃ g, w.heap.size = g := ⟨_, rfl⟩
  obtain ⟨W1, hW1⟩ : ∃ X, w.alloc (.cells #[.int .i64 on, .int .i64 (2), .int .i64 key.acc, .int .i64 key.ast, .int .i64 n, .string v0] 35) = X := ⟨_, rfl⟩
  obtain ⟨W2, hW2⟩ : ∃ X, W1.alloc (.cells #[.string ⟨#[]⟩, .int .i64 0, .bool false] 37) = X := ⟨_, rfl⟩
  have hs1 : W1.heap.size = g + 1 := by rw [← hW1, ← hg]; simp
  have hs2 : W2.heap.size = g + 2 := by rw [← hW2]; simp; omega
  have hb1 : Below w.heap.size w W1 := hW1 ▸ (Below.refl _ _).alloc (Nat.le_refl _) _
  have hb2 : Below W1.heap.size W1 W2 := hW2 ▸ (Below.refl _ _).alloc (Nat.le_refl _) _
  have hbt : Below w.heap.size w W2 := hb1.trans (hb2.mono hb1.size)
  have pc0 : Blk W1 g 35 #[.int .i64 on, .int .i64 (2), .int .i64 key.acc, .int .i64 key.ast, .int .i64 n, .string v0] := by rw [← hW1, ← hg]; exact Blk.new _ _ _
  have pc := pc0.below hb2 pc0.lt
  have pr : Blk W2 (g + 1) 37 #[.string ⟨#[]⟩, .int .i64 0, .bool false] := by rw [← hW2, ← hs1]; exact Blk.new _ _ _
  have h2 := h.below hbt
  have c1 : W2.cell? ⟨g, 1, none⟩ = some (.int .i64 (2)) := pc.cell 1
  have c2 : W2.cell? ⟨g, 2, none⟩ = some (.int .i64 key.acc) := pc.cell 2
  have c3 : W2.cell? ⟨g, 3, none⟩ = some (.int .i64 key.ast) := pc.cell 3
  have c4 : W2.cell? ⟨g, 4, none⟩ = some (.int .i64 n) := pc.cell 4
  have c5 : W2.cell? ⟨g, 5, none⟩ = some (.string v0) := pc.cell 5
  have c6 : W2.cell? ⟨r.p, 0, none⟩ = some (.int .i64 ns) := by rw [h2.blk.cell 0, hsh]; rfl
  have hgb : w.heap.size ≤ g + 1 ∧ g + 1 < W2.heap.size := by omega
  have hgo : ∀ i, r.of i → i ≠ g + 1 := fun i hi e => by have := hold i hi; omega
  have HBT := Lib.hid hbt
  have HGB := Lib.hid hgb
  have HGO := Lib.hid hgo
  have HOLD := Lib.hid hold
  have HSIM := Lib.hid hsim
  have HW1 := Lib.hid hW1
  have HW2 := Lib.hid hW2
  have HPR := Lib.hid pr
  have H2 := Lib.hid h2
  have HW := Lib.hid hg
  have hans : ansA A ns c = ⟨lastV (getR A.rows key), lastM (getR A.rows key), decide (0 < (getR A.rows key).length)⟩ := by unfold ansA; rw [hk, hkey]; rfl
  have hstep : stepA A c = A := by unfold stepA; rw [hk]; rfl
  have hcall := rlastS_calls r key W2 h2 (by omega) (by omega)
  rw [hrows] at hcall
  obtain ⟨v, hv'⟩ : ∃ v, lastV (getR A.rows key) = v := ⟨_, rfl⟩
  rw [hv'] at hcall hans
  obtain ⟨q, hq'⟩ : ∃ q, lastM (getR A.rows key) = q := ⟨_, rfl⟩
  rw [hq'] at hcall hans
  obtain ⟨b, hb'⟩ : ∃ b, decide (0 < (getR A.rows key).length) = b := ⟨_, rfl⟩
  rw [hb'] at hcall hans
  have HANS := Lib.hid hans
  have HSTEP := Lib.hid hstep
  have HCALL := Lib.hid hcall
  clear hans hstep hcall hv' hq' hb'
  clear hbt hgb hgo hold hsim hb hW1 hW2 hs1 hs2 hb1 hb2 pc0 pc pr h2 hg h hrows hwf hk hkey hcn hcv hcs hce hsh hrl hdl hgl
  go_enter Tryz.func11, Tryz.ntmps11
  go_wp2_with (fail)
  rw [HW1.out, HW2.out, HW.out]
  go_wp2_with (fail)
  refine HCALL.out.mono ?_
  rintro e wx ⟨rfl, hbx⟩
  have HT := Lib.hid (TurnR.below H2.out hbx)
  have HSX : Hid (RSim r (stepA A c)) := Lib.hid (by rw [HSTEP.out]; exact HSIM.out)
  clear hbx
  have hrx := HPR.out.but HT.out.but (fun h => HGO.out _ h rfl)
  have HRX := Lib.hid hrx
  have z0 : wx.frozen? ⟨g + 1, 0, none⟩ = false := hrx.frozen 0
  have z1 : wx.frozen? ⟨g + 1, 1, none⟩ = false := hrx.frozen 1
  have z2 : wx.frozen? ⟨g + 1, 2, none⟩ = false := hrx.frozen 2
  have y0 : wx.cell? ⟨g + 1, 0, none⟩ = some (.string ⟨#[]⟩) := hrx.cell 0
  have y1 : wx.cell? ⟨g + 1, 1, none⟩ = some (.int .i64 0) := hrx.cell 1
  have y2 : wx.cell? ⟨g + 1, 2, none⟩ = some (.bool false) := hrx.cell 2
  clear hrx
  go_wp2_with (fail)
  have hrr := ((HRX.out.set_ 0 (.string v)).set_ 1 (.int .i64 q)).set_ 2 (.bool b)
  have hfb : But wx (((wx.setCell ⟨g + 1, 0, none⟩ (.string v)).setCell ⟨g + 1, 1, none⟩ (.int .i64 q)).setCell ⟨g + 1, 2, none⟩ (.bool b)) (fun i => i = g + 1) := (((But.refl wx (fun i => i = g + 1)).setCell (p := ⟨g + 1, 0, none⟩) (fun _ => rfl) _).setCell (p := ⟨g + 1, 1, none⟩) (fun _ => rfl) _).setCell (p := ⟨g + 1, 2, none⟩) (fun _ => rfl) _
  refine ⟨rfl, _, results_cell1 Tryz.results11 rfl [.string v, .int .i64 q, .bool b] hrr Tryz.underlying37 rfl sizeSaid, _, ?_, tell_end HBT.out HGB.out HOLD.out HT.out HSX.out hfb⟩
  rw [HANS.out]
  rfl
set_option maxRecDepth 100000 in
set_option maxHeartbeats 4000000 in
theorem tell_k6 (r : RS) (A : AbS) (m ns : Nat) (on : Int) (key : Key) (n : Int) (v0 : ByteArray) (c : CallV) (hce : c = ⟨on, 6, key, n, v0⟩) (w : World) (h : RSAt w r) (hsim : RSim r A) (hsh : r.sh = ns) (hb : BndA A m) (hm : m ≤ 3000000000000) (hwf : c.n ≤ 9223372036854775807) :
    Calls Tryz.prog 11 #[.pointer (some ⟨r.p, 0, none⟩), .agg c.cs.toArray] w (TellQ w r A ns c) := by
  have hk : c.kind = 6 := by rw [hce]
  have hkey : c.key = key := by rw [hce]
  have hcn : c.n = n := by rw [hce]
  have hcv : c.v = v0 := by rw [hce]
  have hcs : c.cs.toArray = #[.int .i64 on, .int .i64 (6), .int .i64 key.acc, .int .i64 key.ast, .int .i64 n, .string v0] := by rw [hce]; rfl
  rw [hcs]
  have hold : ∀ i, r.of i → i < w.heap.size := fun i hi => h.lt hi
  have hrows := hsim.rows
  have hrl : r.rows.length ≤ m := by have := hb.r; rw [← hrows] at this; unfold RS.rowsA at this; simpa using this
  have hdl : r.rds.length ≤ m := by rw [hsim.bg]; exact hb.b
  have hgl : (getR r.rowsA key).length ≤ m := by rw [hrows]; exact Nat.le_trans (getR_le hb.nd key) hb.t
  obtain ⟨g, hg⟩ : ∃ g, w.heap.size = g := ⟨_, rfl⟩
  obtain ⟨W1, hW1⟩ : ∃ X, w.alloc (.cells #[.int .i64 on, .int .i64 (6), .int .i64 key.acc, .int .i64 key.ast, .int .i64 n, .string v0] 35) = X := ⟨_, rfl⟩
  obtain ⟨W2, hW2⟩ : ∃ X, W1.alloc (.cells #[.string ⟨#[]⟩, .int .i64 0, .bool false] 37) = X := ⟨_, rfl⟩
  have hs1 : W1.heap.size = g + 1 := by rw [← hW1, ← hg]; simp
  have hs2 : W2.heap.size = g + 2 := by rw [← hW2]; simp; omega
  have hb1 : Below w.heap.size w W1 := hW1 ▸ (Below.refl _ _).alloc (Nat.le_refl _) _
  have hb2 : Below W1.heap.size W1 W2 := hW2 ▸ (Below.refl _ _).alloc (Nat.le_refl _) _
  have hbt : Below w.heap.size w W2 := hb1.trans (hb2.mono hb1.size)
  have pc0 : Blk W1 g 35 #[.int .i64 on, .int .i64 (6), .int .i64 key.acc, .int .i64 key.ast, .int .i64 n, .string v0] := by rw [← hW1, ← hg]; exact Blk.new _ _ _
  have pc := pc0.below hb2 pc0.lt
  have pr : Blk W2 (g + 1) 37 #[.string ⟨#[]⟩, .int .i64 0, .bool false] := by rw [← hW2, ← hs1]; exact Blk.new _ _ _
  have h2 := h.below hbt
  have c1 : W2.cell? ⟨g, 1, none⟩ = some (.int .i64 (6)) := pc.cell 1
  have c2 : W2.cell? ⟨g, 2, none⟩ = some (.int .i64 key.acc) := pc.cell 2
  have c3 : W2.cell? ⟨g, 3, none⟩ = some (.int .i64 key.ast) := pc.cell 3
  have c4 : W2.cell? ⟨g, 4, none⟩ = some (.int .i64 n) := pc.cell 4
  have c5 : W2.cell? ⟨g, 5, none⟩ = some (.string v0) := pc.cell 5
  have c6 : W2.cell? ⟨r.p, 0, none⟩ = some (.int .i64 ns) := by rw [h2.blk.cell 0, hsh]; rfl
  have hgb : w.heap.size ≤ g + 1 ∧ g + 1 < W2.heap.size := by omega
  have hgo : ∀ i, r.of i → i ≠ g + 1 := fun i hi e => by have := hold i hi; omega
  have HBT := Lib.hid hbt
  have HGB := Lib.hid hgb
  have HGO := Lib.hid hgo
  have HOLD := Lib.hid hold
  have HSIM := Lib.hid hsim
  have HW1 := Lib.hid hW1
  have HW2 := Lib.hid hW2
  have HPR := Lib.hid pr
  have H2 := Lib.hid h2
  have HW := Lib.hid hg
  have hans : ansA A ns c = ⟨⟨#[]⟩, minL n A.R, false⟩ := by unfold ansA; rw [hk, hcn]; rfl
  have hstep : stepA A c = A := by unfold stepA; rw [hk]; rfl
  have hcall := roldest_calls r n W2 h2 (by omega)
  rw [hsim.R] at hcall
  obtain ⟨q, hq'⟩ : ∃ q, minL n A.R = q := ⟨_, rfl⟩
  rw [hq'] at hcall hans
  have HANS := Lib.hid hans
  have HSTEP := Lib.hid hstep
  have HCALL := Lib.hid hcall
  clear hans hstep hcall hq'
  clear hbt hgb hgo hold hsim hb hW1 hW2 hs1 hs2 hb1 hb2 pc0 pc pr h2 hg h hrows hwf hk hkey hcn hcv hcs hce hsh hrl hdl hgl
  go_enter Tryz.func11, Tryz.ntmps11
  go_wp2_with (fail)
  rw [HW1.out, HW2.out, HW.out]
  go_wp2_with (fail)
  refine HCALL.out.mono ?_
  rintro e wx ⟨rfl, hwx⟩
  have hbx : Below W2.heap.size W2 wx := hwx ▸ Below.refl _ _
  clear hwx
  have HT := Lib.hid (TurnR.below H2.out hbx)
  have HSX : Hid (RSim r (stepA A c)) := Lib.hid (by rw [HSTEP.out]; exact HSIM.out)
  clear hbx
  have hrx := HPR.out.but HT.out.but (fun h => HGO.out _ h rfl)
  have HRX := Lib.hid hrx
  have z0 : wx.frozen? ⟨g + 1, 0, none⟩ = false := hrx.frozen 0
  have z1 : wx.frozen? ⟨g + 1, 1, none⟩ = false := hrx.frozen 1
  have z2 : wx.frozen? ⟨g + 1, 2, none⟩ = false := hrx.frozen 2
  have y0 : wx.cell? ⟨g + 1, 0, none⟩ = some (.string ⟨#[]⟩) := hrx.cell 0
  have y1 : wx.cell? ⟨g + 1, 1, none⟩ = some (.int .i64 0) := hrx.cell 1
  have y2 : wx.cell? ⟨g + 1, 2, none⟩ = some (.bool false) := hrx.cell 2
  clear hrx
  go_wp2_with (fail)
  have hrr := ((HRX.out.set_ 0 (.string ⟨#[]⟩)).set_ 1 (.int .i64 q)).set_ 2 (.bool false)
  have hfb : But wx (((wx.setCell ⟨g + 1, 0, none⟩ (.string ⟨#[]⟩)).setCell ⟨g + 1, 1, none⟩ (.int .i64 q)).setCell ⟨g + 1, 2, none⟩ (.bool false)) (fun i => i = g + 1) := (((But.refl wx (fun i => i = g + 1)).setCell (p := ⟨g + 1, 0, none⟩) (fun _ => rfl) _).setCell (p := ⟨g + 1, 1, none⟩) (fun _ => rfl) _).setCell (p := ⟨g + 1, 2, none⟩) (fun _ => rfl) _
  refine ⟨rfl, _, results_cell1 Tryz.results11 rfl [.string ⟨#[]⟩, .int .i64 q, .bool false] hrr Tryz.underlying37 rfl sizeSaid, _, ?_, tell_end HBT.out HGB.out HOLD.out HT.out HSX.out hfb⟩
  rw [HANS.out]
  rfl
set_option maxRecDepth 100000 in
set_option maxHeartbeats 4000000 in
theorem tell_k8 (r : RS) (A : AbS) (m ns : Nat) (on : Int) (key : Key) (n : Int) (v0 : ByteArray) (c : CallV) (hce : c = ⟨on, 8, key, n, v0⟩) (w : World) (h : RSAt w r) (hsim : RSim r A) (hsh : r.sh = ns) (hb : BndA A m) (hm : m ≤ 3000000000000) (hwf : c.n ≤ 9223372036854775807) :
    Calls Tryz.prog 11 #[.pointer (some ⟨r.p, 0, none⟩), .agg c.cs.toArray] w (TellQ w r A ns c) := by
  have hk : c.kind = 8 := by rw [hce]
  have hkey : c.key = key := by rw [hce]
  have hcn : c.n = n := by rw [hce]
  have hcv : c.v = v0 := by rw [hce]
  have hcs : c.cs.toArray = #[.int .i64 on, .int .i64 (8), .int .i64 key.acc, .int .i64 key.ast, .int .i64 n, .string v0] := by rw [hce]; rfl
  rw [hcs]
  have hold : ∀ i, r.of i → i < w.heap.size := fun i hi => h.lt hi
  have hrows := hsim.rows
  have hrl : r.rows.length ≤ m := by have := hb.r; rw [← hrows] at this; unfold RS.rowsA at this; simpa using this
  have hdl : r.rds.length ≤ m := by rw [hsim.bg]; exact hb.b
  have hgl : (getR r.rowsA key).length ≤ m := by rw [hrows]; exact Nat.le_trans (getR_le hb.nd key) hb.t
  obtain ⟨g, hg⟩ : ∃ g, w.heap.size = g := ⟨_, rfl⟩
  obtain ⟨W1, hW1⟩ : ∃ X, w.alloc (.cells #[.int .i64 on, .int .i64 (8), .int .i64 key.acc, .int .i64 key.ast, .int .i64 n, .string v0] 35) = X := ⟨_, rfl⟩
  obtain ⟨W2, hW2⟩ : ∃ X, W1.alloc (.cells #[.string ⟨#[]⟩, .int .i64 0, .bool false] 37) = X := ⟨_, rfl⟩
  have hs1 : W1.heap.size = g + 1 := by rw [← hW1, ← hg]; simp
  have hs2 : W2.heap.size = g + 2 := by rw [← hW2]; simp; omega
  have hb1 : Below w.heap.size w W1 := hW1 ▸ (Below.refl _ _).alloc (Nat.le_refl _) _
  have hb2 : Below W1.heap.size W1 W2 := hW2 ▸ (Below.refl _ _).alloc (Nat.le_refl _) _
  have hbt : Below w.heap.size w W2 := hb1.trans (hb2.mono hb1.size)
  have pc0 : Blk W1 g 35 #[.int .i64 on, .int .i64 (8), .int .i64 key.acc, .int .i64 key.ast, .int .i64 n, .string v0] := by rw [← hW1, ← hg]; exact Blk.new _ _ _
  have pc := pc0.below hb2 pc0.lt
  have pr : Blk W2 (g + 1) 37 #[.string ⟨#[]⟩, .int .i64 0, .bool false] := by rw [← hW2, ← hs1]; exact Blk.new _ _ _
  have h2 := h.below hbt
  have c1 : W2.cell? ⟨g, 1, none⟩ = some (.int .i64 (8)) := pc.cell 1
  have c2 : W2.cell? ⟨g, 2, none⟩ = some (.int .i64 key.acc) := pc.cell 2
  have c3 : W2.cell? ⟨g, 3, none⟩ = some (.int .i64 key.ast) := pc.cell 3
  have c4 : W2.cell? ⟨g, 4, none⟩ = some (.int .i64 n) := pc.cell 4
  have c5 : W2.cell? ⟨g, 5, none⟩ = some (.string v0) := pc.cell 5
  have c6 : W2.cell? ⟨r.p, 0, none⟩ = some (.int .i64 ns) := by rw [h2.blk.cell 0, hsh]; rfl
  have hgb : w.heap.size ≤ g + 1 ∧ g + 1 < W2.heap.size := by omega
  have hgo : ∀ i, r.of i → i ≠ g + 1 := fun i hi e => by have := hold i hi; omega
  have HBT := Lib.hid hbt
  have HGB := Lib.hid hgb
  have HGO := Lib.hid hgo
  have HOLD := Lib.hid hold
  have HSIM := Lib.hid hsim
  have HW1 := Lib.hid hW1
  have HW2 := Lib.hid hW2
  have HPR := Lib.hid pr
  have H2 := Lib.hid h2
  have HW := Lib.hid hg
  have hans : ansA A ns c = ⟨⟨#[]⟩, total A.rows, false⟩ := by unfold ansA; rw [hk]; rfl
  have hstep : stepA A c = A := by unfold stepA; rw [hk]; rfl
  have hcall := rversions_calls r W2 h2 (by rw [hrows]; have := hb.t; omega) (by omega)
  rw [hrows] at hcall
  obtain ⟨q, hq'⟩ : ∃ q, total A.rows = q := ⟨_, rfl⟩
  rw [hq'] at hcall hans
  have HANS := Lib.hid hans
  have HSTEP := Lib.hid hstep
  have HCALL := Lib.hid hcall
  clear hans hstep hcall hq'
  clear hbt hgb hgo hold hsim hb hW1 hW2 hs1 hs2 hb1 hb2 pc0 pc pr h2 hg h hrows hwf hk hkey hcn hcv hcs hce hsh hrl hdl hgl
  go_enter Tryz.func11, Tryz.ntmps11
  go_wp2_with (fail)
  rw [HW1.out, HW2.out, HW.out]
  go_wp2_with (fail)
  refine HCALL.out.mono ?_
  rintro e wx ⟨rfl, hwx⟩
  have hbx : Below W2.heap.size W2 wx := hwx ▸ Below.refl _ _
  clear hwx
  have HT := Lib.hid (TurnR.below H2.out hbx)
  have HSX : Hid (RSim r (stepA A c)) := Lib.hid (by rw [HSTEP.out]; exact HSIM.out)
  clear hbx
  have hrx := HPR.out.but HT.out.but (fun h => HGO.out _ h rfl)
  have HRX := Lib.hid hrx
  have z0 : wx.frozen? ⟨g + 1, 0, none⟩ = false := hrx.frozen 0
  have z1 : wx.frozen? ⟨g + 1, 1, none⟩ = false := hrx.frozen 1
  have z2 : wx.frozen? ⟨g + 1, 2, none⟩ = false := hrx.frozen 2
  have y0 : wx.cell? ⟨g + 1, 0, none⟩ = some (.string ⟨#[]⟩) := hrx.cell 0
  have y1 : wx.cell? ⟨g + 1, 1, none⟩ = some (.int .i64 0) := hrx.cell 1
  have y2 : wx.cell? ⟨g + 1, 2, none⟩ = some (.bool false) := hrx.cell 2
  clear hrx
  go_wp2_with (fail)
  have hrr := ((HRX.out.set_ 0 (.string ⟨#[]⟩)).set_ 1 (.int .i64 q)).set_ 2 (.bool false)
  have hfb : But wx (((wx.setCell ⟨g + 1, 0, none⟩ (.string ⟨#[]⟩)).setCell ⟨g + 1, 1, none⟩ (.int .i64 q)).setCell ⟨g + 1, 2, none⟩ (.bool false)) (fun i => i = g + 1) := (((But.refl wx (fun i => i = g + 1)).setCell (p := ⟨g + 1, 0, none⟩) (fun _ => rfl) _).setCell (p := ⟨g + 1, 1, none⟩) (fun _ => rfl) _).setCell (p := ⟨g + 1, 2, none⟩) (fun _ => rfl) _
  refine ⟨rfl, _, results_cell1 Tryz.results11 rfl [.string ⟨#[]⟩, .int .i64 q, .bool false] hrr Tryz.underlying37 rfl sizeSaid, _, ?_, tell_end HBT.out HGB.out HOLD.out HT.out HSX.out hfb⟩
  rw [HANS.out]
  rfl
set_option maxRecDepth 100000 in
set_option maxHeartbeats 4000000 in
theorem tell_kD (r : RS) (A : AbS) (m ns : Nat) (on kd : Int) (key : Key) (n : Int) (v0 : ByteArray) (c : CallV) (hce : c = ⟨on, kd, key, n, v0⟩) (w : World) (h : RSAt w r) (hsim : RSim r A) (hsh : r.sh = ns) (hb : BndA A m) (hm : m ≤ 3000000000000) (hwf : c.n ≤ 9223372036854775807) (hne : kd ≠ 0 ∧ kd ≠ 1 ∧ kd ≠ 2 ∧ kd ≠ 4 ∧ kd ≠ 5 ∧ kd ≠ 6 ∧ kd ≠ 7 ∧ kd ≠ 8) :
    Calls Tryz.prog 11 #[.pointer (some ⟨r.p, 0, none⟩), .agg c.cs.toArray] w (TellQ w r A ns c) := by
  have hk : c.kind = kd := by rw [hce]
  have hkey : c.key = key := by rw [hce]
  have hcn : c.n = n := by rw [hce]
  have hcv : c.v = v0 := by rw [hce]
  have hcs : c.cs.toArray = #[.int .i64 on, .int .i64 (kd), .int .i64 key.acc, .int .i64 key.ast, .int .i64 n, .string v0] := by rw [hce]; rfl
  rw [hcs]
  have hold : ∀ i, r.of i → i < w.heap.size := fun i hi => h.lt hi
  have hrows := hsim.rows
  have hrl : r.rows.length ≤ m := by have := hb.r; rw [← hrows] at this; unfold RS.rowsA at this; simpa using this
  have hdl : r.rds.length ≤ m := by rw [hsim.bg]; exact hb.b
  have hgl : (getR r.rowsA key).length ≤ m := by rw [hrows]; exact Nat.le_trans (getR_le hb.nd key) hb.t
  obtain ⟨g, hg⟩ : ∃ g, w.heap.size = g := ⟨_, rfl⟩
  obtain ⟨W1, hW1⟩ : ∃ X, w.alloc (.cells #[.int .i64 on, .int .i64 (kd), .int .i64 key.acc, .int .i64 key.ast, .int .i64 n, .string v0] 35) = X := ⟨_, rfl⟩
  obtain ⟨W2, hW2⟩ : ∃ X, W1.alloc (.cells #[.string ⟨#[]⟩, .int .i64 0, .bool false] 37) = X := ⟨_, rfl⟩
  have hs1 : W1.heap.size = g + 1 := by rw [← hW1, ← hg]; simp
  have hs2 : W2.heap.size = g + 2 := by rw [← hW2]; simp; omega
  have hb1 : Below w.heap.size w W1 := hW1 ▸ (Below.refl _ _).alloc (Nat.le_refl _) _
  have hb2 : Below W1.heap.size W1 W2 := hW2 ▸ (Below.refl _ _).alloc (Nat.le_refl _) _
  have hbt : Below w.heap.size w W2 := hb1.trans (hb2.mono hb1.size)
  have pc0 : Blk W1 g 35 #[.int .i64 on, .int .i64 (kd), .int .i64 key.acc, .int .i64 key.ast, .int .i64 n, .string v0] := by rw [← hW1, ← hg]; exact Blk.new _ _ _
  have pc := pc0.below hb2 pc0.lt
  have pr : Blk W2 (g + 1) 37 #[.string ⟨#[]⟩, .int .i64 0, .bool false] := by rw [← hW2, ← hs1]; exact Blk.new _ _ _
  have h2 := h.below hbt
  have c1 : W2.cell? ⟨g, 1, none⟩ = some (.int .i64 (kd)) := pc.cell 1
  have c2 : W2.cell? ⟨g, 2, none⟩ = some (.int .i64 key.acc) := pc.cell 2
  have c3 : W2.cell? ⟨g, 3, none⟩ = some (.int .i64 key.ast) := pc.cell 3
  have c4 : W2.cell? ⟨g, 4, none⟩ = some (.int .i64 n) := pc.cell 4
  have c5 : W2.cell? ⟨g, 5, none⟩ = some (.string v0) := pc.cell 5
  have c6 : W2.cell? ⟨r.p, 0, none⟩ = some (.int .i64 ns) := by rw [h2.blk.cell 0, hsh]; rfl
  have hgb : w.heap.size ≤ g + 1 ∧ g + 1 < W2.heap.size := by omega
  have hgo : ∀ i, r.of i → i ≠ g + 1 := fun i hi e => by have := hold i hi; omega
  have HBT := Lib.hid hbt
  have HGB := Lib.hid hgb
  have HGO := Lib.hid hgo
  have HOLD := Lib.hid hold
  have HSIM := Lib.hid hsim
  have HW1 := Lib.hid hW1
  have HW2 := Lib.hid hW2
  have HPR := Lib.hid pr
  have H2 := Lib.hid h2
  have HW := Lib.hid hg
  have hans : ansA A ns c = ⟨⟨#[]⟩, ns, false⟩ := by unfold ansA; rw [hk, if_neg hne.1, if_neg hne.2.1, if_neg hne.2.2.1, if_neg hne.2.2.2.1, if_neg hne.2.2.2.2.1, if_neg hne.2.2.2.2.2.1, if_neg hne.2.2.2.2.2.2.1, if_neg hne.2.2.2.2.2.2.2]
  have hstep : stepA A c = A := by unfold stepA; rw [hk, if_neg hne.1, if_neg hne.2.2.2.1, if_neg hne.2.2.2.2.1, if_neg hne.2.2.2.2.2.2.1]
  have HANS := Lib.hid hans
  have HSTEP := Lib.hid hstep
  clear hans hstep
  have e0 : (kd == 0) = false := by simpa using hne.1
  have e1 : (kd == 1) = false := by simpa using hne.2.1
  have e2 : (kd == 2) = false := by simpa using hne.2.2.1
  have e4 : (kd == 4) = false := by simpa using hne.2.2.2.1
  have e5 : (kd == 5) = false := by simpa using hne.2.2.2.2.1
  have e6 : (kd == 6) = false := by simpa using hne.2.2.2.2.2.1
  have e7 : (kd == 7) = false := by simpa using hne.2.2.2.2.2.2.1
  have e8 : (kd == 8) = false := by simpa using hne.2.2.2.2.2.2.2
  clear hne
  clear hbt hgb hgo hold hsim hb hW1 hW2 hs1 hs2 hb1 hb2 pc0 pc pr h2 hg h hrows hwf hk hkey hcn hcv hcs hce hsh hrl hdl hgl
  go_enter Tryz.func11, Tryz.ntmps11
  go_upto_region 1 with fail
  rw [HW1.out, HW2.out, HW.out]
  obtain ⟨wx, hwx⟩ : ∃ X, W2 = X := ⟨_, rfl⟩
  have hbx : Below W2.heap.size W2 wx := hwx ▸ Below.refl _ _
  rw [hwx]
  rw [hwx] at c1 c6
  clear hwx
  have HT := Lib.hid (TurnR.below H2.out hbx)
  have HSX : Hid (RSim r (stepA A c)) := Lib.hid (by rw [HSTEP.out]; exact HSIM.out)
  clear hbx
  have hrx := HPR.out.but HT.out.but (fun h => HGO.out _ h rfl)
  have HRX := Lib.hid hrx
  have z0 : wx.frozen? ⟨g + 1, 0, none⟩ = false := hrx.frozen 0
  have z1 : wx.frozen? ⟨g + 1, 1, none⟩ = false := hrx.frozen 1
  have z2 : wx.frozen? ⟨g + 1, 2, none⟩ = false := hrx.frozen 2
  have y0 : wx.cell? ⟨g + 1, 0, none⟩ = some (.string ⟨#[]⟩) := hrx.cell 0
  have y1 : wx.cell? ⟨g + 1, 1, none⟩ = some (.int .i64 0) := hrx.cell 1
  have y2 : wx.cell? ⟨g + 1, 2, none⟩ = some (.bool false) := hrx.cell 2
  clear hrx
  go_wp2_with (fail)
  have hrr := ((HRX.out.set_ 0 (.string ⟨#[]⟩)).set_ 1 (.int .i64 ns)).set_ 2 (.bool false)
  have hfb : But wx (((wx.setCell ⟨g + 1, 0, none⟩ (.string ⟨#[]⟩)).setCell ⟨g + 1, 1, none⟩ (.int .i64 ns)).setCell ⟨g + 1, 2, none⟩ (.bool false)) (fun i => i = g + 1) := (((But.refl wx (fun i => i = g + 1)).setCell (p := ⟨g + 1, 0, none⟩) (fun _ => rfl) _).setCell (p := ⟨g + 1, 1, none⟩) (fun _ => rfl) _).setCell (p := ⟨g + 1, 2, none⟩) (fun _ => rfl) _
  refine ⟨rfl, _, results_cell1 Tryz.results11 rfl [.string ⟨#[]⟩, .int .i64 ns, .bool false] hrr Tryz.underlying37 rfl sizeSaid, _, ?_, tell_end HBT.out HGB.out HOLD.out HT.out HSX.out hfb⟩
  rw [HANS.out]
  rfl
set_option maxRecDepth 100000 in
set_option maxHeartbeats 4000000 in
theorem tell_k0 (r : RS) (A : AbS) (m ns : Nat) (on : Int) (key : Key) (n : Int) (v0 : ByteArray) (c : CallV) (hce : c = ⟨on, 0, key, n, v0⟩) (w : World) (h : RSAt w r) (hsim : RSim r A) (hsh : r.sh = ns) (hb : BndA A m) (hm : m ≤ 3000000000000) (hwf : c.n ≤ 9223372036854775807) :
    Calls Tryz.prog 11 #[.pointer (some ⟨r.p, 0, none⟩), .agg c.cs.toArray] w (TellQ w r A ns c) := by
  have hk : c.kind = 0 := by rw [hce]
  have hkey : c.key = key := by rw [hce]
  have hcn : c.n = n := by rw [hce]
  have hcv : c.v = v0 := by rw [hce]
  have hcs : c.cs.toArray = #[.int .i64 on, .int .i64 (0), .int .i64 key.acc, .int .i64 key.ast, .int .i64 n, .string v0] := by rw [hce]; rfl
  rw [hcs]
  have hold : ∀ i, r.of i → i < w.heap.size := fun i hi => h.lt hi
  have hrows := hsim.rows
  have hrl : r.rows.length ≤ m := by have := hb.r; rw [← hrows] at this; unfold RS.rowsA at this; simpa using this
  have hdl : r.rds.length ≤ m := by rw [hsim.bg]; exact hb.b
  have hgl : (getR r.rowsA key).length ≤ m := by rw [hrows]; exact Nat.le_trans (getR_le hb.nd key) hb.t
  obtain ⟨g, hg⟩ : ∃ g, w.heap.size = g := ⟨_, rfl⟩
  obtain ⟨W1, hW1⟩ : ∃ X, w.alloc (.cells #[.int .i64 on, .int .i64 (0), .int .i64 key.acc, .int .i64 key.ast, .int .i64 n, .string v0] 35) = X := ⟨_, rfl⟩
  obtain ⟨W2, hW2⟩ : ∃ X, W1.alloc (.cells #[.string ⟨#[]⟩, .int .i64 0, .bool false] 37) = X := ⟨_, rfl⟩
  have hs1 : W1.heap.size = g + 1 := by rw [← hW1, ← hg]; simp
  have hs2 : W2.heap.size = g + 2 := by rw [← hW2]; simp; omega
  have hb1 : Below w.heap.size w W1 := hW1 ▸ (Below.refl _ _).alloc (Nat.le_refl _) _
  have hb2 : Below W1.heap.size W1 W2 := hW2 ▸ (Below.refl _ _).alloc (Nat.le_refl _) _
  have hbt : Below w.heap.size w W2 := hb1.trans (hb2.mono hb1.size)
  have pc0 : Blk W1 g 35 #[.int .i64 on, .int .i64 (0), .int .i64 key.acc, .int .i64 key.ast, .int .i64 n, .string v0] := by rw [← hW1, ← hg]; exact Blk.new _ _ _
  have pc := pc0.below hb2 pc0.lt
  have pr : Blk W2 (g + 1) 37 #[.string ⟨#[]⟩, .int .i64 0, .bool false] := by rw [← hW2, ← hs1]; exact Blk.new _ _ _
  have h2 := h.below hbt
  have c1 : W2.cell? ⟨g, 1, none⟩ = some (.int .i64 (0)) := pc.cell 1
  have c2 : W2.cell? ⟨g, 2, none⟩ = some (.int .i64 key.acc) := pc.cell 2
  have c3 : W2.cell? ⟨g, 3, none⟩ = some (.int .i64 key.ast) := pc.cell 3
  have c4 : W2.cell? ⟨g, 4, none⟩ = some (.int .i64 n) := pc.cell 4
  have c5 : W2.cell? ⟨g, 5, none⟩ = some (.string v0) := pc.cell 5
  have c6 : W2.cell? ⟨r.p, 0, none⟩ = some (.int .i64 ns) := by rw [h2.blk.cell 0, hsh]; rfl
  have hgb : w.heap.size ≤ g + 1 ∧ g + 1 < W2.heap.size := by omega
  have hgo : ∀ i, r.of i → i ≠ g + 1 := fun i hi e => by have := hold i hi; omega
  have HBT := Lib.hid hbt
  have HGB := Lib.hid hgb
  have HGO := Lib.hid hgo
  have HOLD := Lib.hid hold
  have HSIM := Lib.hid hsim
  have HW1 := Lib.hid hW1
  have HW2 := Lib.hid hW2
  have HPR := Lib.hid pr
  have H2 := Lib.hid h2
  have HW := Lib.hid hg
  have hans : ansA A ns c = ⟨⟨#[]⟩, putE (getR A.rows key) n, true⟩ := by unfold ansA; rw [hk, hkey, hcn]; rfl
  have hcall := rputS_calls r key n v0 W2 h2 (by rw [← hcn]; exact hwf) (by omega) (by omega)
  unfold RPutQ at hcall
  rw [hrows] at hcall
  obtain ⟨q, hq'⟩ : ∃ q, putE (getR A.rows key) n = q := ⟨_, rfl⟩
  rw [hq'] at hcall hans
  have hsim2 : ∀ wx r', TurnR W2 wx r r' ∧ r'.rowsA = putR A.rows key n v0 ∧ r'.rds = r.rds → RSim r' (stepA A c) := fun wx r' hq => by
    have : stepA A c = { A with rows := putR A.rows key n v0 } := by unfold stepA; rw [hk, hkey, hcn, hcv]; rfl
    rw [this]
    exact ⟨hq.2.1, by rw [hq.2.2]; exact hsim.R, by rw [hq.2.2]; exact hsim.bg⟩
  have HANS := Lib.hid hans
  have HSIM2 := Lib.hid hsim2
  have HCALL := Lib.hid hcall
  clear hans hcall hsim2 hq'
  clear hbt hgb hgo hold hsim hb hW1 hW2 hs1 hs2 hb1 hb2 pc0 pc pr h2 hg h hrows hwf hk hkey hcn hcv hcs hce hsh hrl hdl hgl
  go_enter Tryz.func11, Tryz.ntmps11
  go_wp2_with (fail)
  rw [HW1.out, HW2.out, HW.out]
  go_wp2_with (fail)
  refine HCALL.out.mono ?_
  rintro e wx ⟨r', rfl, hq⟩
  have HQ := Lib.hid hq
  clear hq
  have HT := Lib.hid HQ.out.1
  have HSX := Lib.hid (HSIM2.out wx r' HQ.out)
  have hrx := HPR.out.but HT.out.but (fun h => HGO.out _ h rfl)
  have HRX := Lib.hid hrx
  have z0 : wx.frozen? ⟨g + 1, 0, none⟩ = false := hrx.frozen 0
  have z1 : wx.frozen? ⟨g + 1, 1, none⟩ = false := hrx.frozen 1
  have z2 : wx.frozen? ⟨g + 1, 2, none⟩ = false := hrx.frozen 2
  have y0 : wx.cell? ⟨g + 1, 0, none⟩ = some (.string ⟨#[]⟩) := hrx.cell 0
  have y1 : wx.cell? ⟨g + 1, 1, none⟩ = some (.int .i64 0) := hrx.cell 1
  have y2 : wx.cell? ⟨g + 1, 2, none⟩ = some (.bool false) := hrx.cell 2
  clear hrx
  go_wp2_with (fail)
  have hrr := ((HRX.out.set_ 0 (.string ⟨#[]⟩)).set_ 1 (.int .i64 q)).set_ 2 (.bool true)
  have hfb : But wx (((wx.setCell ⟨g + 1, 0, none⟩ (.string ⟨#[]⟩)).setCell ⟨g + 1, 1, none⟩ (.int .i64 q)).setCell ⟨g + 1, 2, none⟩ (.bool true)) (fun i => i = g + 1) := (((But.refl wx (fun i => i = g + 1)).setCell (p := ⟨g + 1, 0, none⟩) (fun _ => rfl) _).setCell (p := ⟨g + 1, 1, none⟩) (fun _ => rfl) _).setCell (p := ⟨g + 1, 2, none⟩) (fun _ => rfl) _
  refine ⟨rfl, _, results_cell1 Tryz.results11 rfl [.string ⟨#[]⟩, .int .i64 q, .bool true] hrr Tryz.underlying37 rfl sizeSaid, _, ?_, tell_end HBT.out HGB.out HOLD.out HT.out HSX.out hfb⟩
  rw [HANS.out]
  rfl
set_option maxRecDepth 100000 in
set_option maxHeartbeats 4000000 in
theorem tell_k4 (r : RS) (A : AbS) (m ns : Nat) (on : Int) (key : Key) (n : Int) (v0 : ByteArray) (c : CallV) (hce : c = ⟨on, 4, key, n, v0⟩) (w : World) (h : RSAt w r) (hsim : RSim r A) (hsh : r.sh = ns) (hb : BndA A m) (hm : m ≤ 3000000000000) (hwf : c.n ≤ 9223372036854775807) :
    Calls Tryz.prog 11 #[.pointer (some ⟨r.p, 0, none⟩), .agg c.cs.toArray] w (TellQ w r A ns c) := by
  have hk : c.kind = 4 := by rw [hce]
  have hkey : c.key = key := by rw [hce]
  have hcn : c.n = n := by rw [hce]
  have hcv : c.v = v0 := by rw [hce]
  have hcs : c.cs.toArray = #[.int .i64 on, .int .i64 (4), .int .i64 key.acc, .int .i64 key.ast, .int .i64 n, .string v0] := by rw [hce]; rfl
  rw [hcs]
  have hold : ∀ i, r.of i → i < w.heap.size := fun i hi => h.lt hi
  have hrows := hsim.rows
  have hrl : r.rows.length ≤ m := by have := hb.r; rw [← hrows] at this; unfold RS.rowsA at this; simpa using this
  have hdl : r.rds.length ≤ m := by rw [hsim.bg]; exact hb.b
  have hgl : (getR r.rowsA key).length ≤ m := by rw [hrows]; exact Nat.le_trans (getR_le hb.nd key) hb.t
  obtain ⟨g, hg⟩ : ∃ g, w.heap.size = g := ⟨_, rfl⟩
  obtain ⟨W1, hW1⟩ : ∃ X, w.alloc (.cells #[.int .i64 on, .int .i64 (4), .int .i64 key.acc, .int .i64 key.ast, .int .i64 n, .string v0] 35) = X := ⟨_, rfl⟩
  obtain ⟨W2, hW2⟩ : ∃ X, W1.alloc (.cells #[.string ⟨#[]⟩, .int .i64 0, .bool false] 37) = X := ⟨_, rfl⟩
  have hs1 : W1.heap.size = g + 1 := by rw [← hW1, ← hg]; simp
  have hs2 : W2.heap.size = g + 2 := by rw [← hW2]; simp; omega
  have hb1 : Below w.heap.size w W1 := hW1 ▸ (Below.refl _ _).alloc (Nat.le_refl _) _
  have hb2 : Below W1.heap.size W1 W2 := hW2 ▸ (Below.refl _ _).alloc (Nat.le_refl _) _
  have hbt : Below w.heap.size w W2 := hb1.trans (hb2.mono hb1.size)
  have pc0 : Blk W1 g 35 #[.int .i64 on, .int .i64 (4), .int .i64 key.acc, .int .i64 key.ast, .int .i64 n, .string v0] := by rw [← hW1, ← hg]; exact Blk.new _ _ _
  have pc := pc0.below hb2 pc0.lt
  have pr : Blk W2 (g + 1) 37 #[.string ⟨#[]⟩, .int .i64 0, .bool false] := by rw [← hW2, ← hs1]; exact Blk.new _ _ _
  have h2 := h.below hbt
  have c1 : W2.cell? ⟨g, 1, none⟩ = some (.int .i64 (4)) := pc.cell 1
  have c2 : W2.cell? ⟨g, 2, none⟩ = some (.int .i64 key.acc) := pc.cell 2
  have c3 : W2.cell? ⟨g, 3, none⟩ = some (.int .i64 key.ast) := pc.cell 3
  have c4 : W2.cell? ⟨g, 4, none⟩ = some (.int .i64 n) := pc.cell 4
  have c5 : W2.cell? ⟨g, 5, none⟩ = some (.string v0) := pc.cell 5
  have c6 : W2.cell? ⟨r.p, 0, none⟩ = some (.int .i64 ns) := by rw [h2.blk.cell 0, hsh]; rfl
  have hgb : w.heap.size ≤ g + 1 ∧ g + 1 < W2.heap.size := by omega
  have hgo : ∀ i, r.of i → i ≠ g + 1 := fun i hi e => by have := hold i hi; omega
  have HBT := Lib.hid hbt
  have HGB := Lib.hid hgb
  have HGO := Lib.hid hgo
  have HOLD := Lib.hid hold
  have HSIM := Lib.hid hsim
  have HW1 := Lib.hid hW1
  have HW2 := Lib.hid hW2
  have HPR := Lib.hid pr
  have H2 := Lib.hid h2
  have HW := Lib.hid hg
  have hans : ansA A ns c = ⟨⟨#[]⟩, (A.bg : Int) + 1, false⟩ := by unfold ansA; rw [hk]; rfl
  have hcall := ropen_calls r n W2 h2 (by omega)
  unfold ROpenQ at hcall
  rw [hsim.bg, hrows] at hcall
  obtain ⟨q, hq'⟩ : ∃ q, (A.bg : Int) + 1 = q := ⟨_, rfl⟩
  rw [hq'] at hcall hans
  have hsim2 : ∀ wx r', TurnR W2 wx r r' ∧ r'.rowsA = A.rows ∧ r'.rds = r.rds ++ [(n, false)] → RSim r' (stepA A c) := fun wx r' hq => by
    have : stepA A c = { A with R := A.R ++ [((A.bg : Int) + 1, n)], bg := A.bg + 1 } := by unfold stepA; rw [hk, hcn]; rfl
    rw [this]
    refine ⟨hq.2.1, ?_, ?_⟩
    · show openR 0 r'.rds = A.R ++ [((A.bg : Int) + 1, n)]
      rw [hq.2.2, openR_app, hsim.R, hsim.bg]
      simp [openR]
    · show r'.rds.length = A.bg + 1
      rw [hq.2.2, List.length_append, hsim.bg]
      rfl
  have HANS := Lib.hid hans
  have HSIM2 := Lib.hid hsim2
  have HCALL := Lib.hid hcall
  clear hans hcall hsim2 hq'
  clear hbt hgb hgo hold hsim hb hW1 hW2 hs1 hs2 hb1 hb2 pc0 pc pr h2 hg h hrows hwf hk hkey hcn hcv hcs hce hsh hrl hdl hgl
  go_enter Tryz.func11, Tryz.ntmps11
  go_wp2_with (fail)
  rw [HW1.out, HW2.out, HW.out]
  go_wp2_with (fail)
  refine HCALL.out.mono ?_
  rintro e wx ⟨r', rfl, hq⟩
  have HQ := Lib.hid hq
  clear hq
  have HT := Lib.hid HQ.out.1
  have HSX := Lib.hid (HSIM2.out wx r' HQ.out)
  have hrx := HPR.out.but HT.out.but (fun h => HGO.out _ h rfl)
  have HRX := Lib.hid hrx
  have z0 : wx.frozen? ⟨g + 1, 0, none⟩ = false := hrx.frozen 0
  have z1 : wx.frozen? ⟨g + 1, 1, none⟩ = false := hrx.frozen 1
  have z2 : wx.frozen? ⟨g + 1, 2, none⟩ = false := hrx.frozen 2
  have y0 : wx.cell? ⟨g + 1, 0, none⟩ = some (.string ⟨#[]⟩) := hrx.cell 0
  have y1 : wx.cell? ⟨g + 1, 1, none⟩ = some (.int .i64 0) := hrx.cell 1
  have y2 : wx.cell? ⟨g + 1, 2, none⟩ = some (.bool false) := hrx.cell 2
  clear hrx
  go_wp2_with (fail)
  have hrr := ((HRX.out.set_ 0 (.string ⟨#[]⟩)).set_ 1 (.int .i64 q)).set_ 2 (.bool false)
  have hfb : But wx (((wx.setCell ⟨g + 1, 0, none⟩ (.string ⟨#[]⟩)).setCell ⟨g + 1, 1, none⟩ (.int .i64 q)).setCell ⟨g + 1, 2, none⟩ (.bool false)) (fun i => i = g + 1) := (((But.refl wx (fun i => i = g + 1)).setCell (p := ⟨g + 1, 0, none⟩) (fun _ => rfl) _).setCell (p := ⟨g + 1, 1, none⟩) (fun _ => rfl) _).setCell (p := ⟨g + 1, 2, none⟩) (fun _ => rfl) _
  refine ⟨rfl, _, results_cell1 Tryz.results11 rfl [.string ⟨#[]⟩, .int .i64 q, .bool false] hrr Tryz.underlying37 rfl sizeSaid, _, ?_, tell_end HBT.out HGB.out HOLD.out HT.out HSX.out hfb⟩
  rw [HANS.out]
  rfl
set_option maxRecDepth 100000 in
set_option maxHeartbeats 4000000 in
theorem tell_k5 (r : RS) (A : AbS) (m ns : Nat) (on : Int) (key : Key) (n : Int) (v0 : ByteArray) (c : CallV) (hce : c = ⟨on, 5, key, n, v0⟩) (w : World) (h : RSAt w r) (hsim : RSim r A) (hsh : r.sh = ns) (hb : BndA A m) (hm : m ≤ 3000000000000) (hwf : c.n ≤ 9223372036854775807) :
    Calls Tryz.prog 11 #[.pointer (some ⟨r.p, 0, none⟩), .agg c.cs.toArray] w (TellQ w r A ns c) := by
  have hk : c.kind = 5 := by rw [hce]
  have hkey : c.key = key := by rw [hce]
  have hcn : c.n = n := by rw [hce]
  have hcv : c.v = v0 := by rw [hce]
  have hcs : c.cs.toArray = #[.int .i64 on, .int .i64 (5), .int .i64 key.acc, .int .i64 key.ast, .int .i64 n, .string v0] := by rw [hce]; rfl
  rw [hcs]
  have hold : ∀ i, r.of i → i < w.heap.size := fun i hi => h.lt hi
  have hrows := hsim.rows
  have hrl : r.rows.length ≤ m := by have := hb.r; rw [← hrows] at this; unfold RS.rowsA at this; simpa using this
  have hdl : r.rds.length ≤ m := by rw [hsim.bg]; exact hb.b
  have hgl : (getR r.rowsA key).length ≤ m := by rw [hrows]; exact Nat.le_trans (getR_le hb.nd key) hb.t
  obtain ⟨g, hg⟩ : ∃ g, w.heap.size = g := ⟨_, rfl⟩
  obtain ⟨W1, hW1⟩ : ∃ X, w.alloc (.cells #[.int .i64 on, .int .i64 (5), .int .i64 key.acc, .int .i64 key.ast, .int .i64 n, .string v0] 35) = X := ⟨_, rfl⟩
  obtain ⟨W2, hW2⟩ : ∃ X, W1.alloc (.cells #[.string ⟨#[]⟩, .int .i64 0, .bool false] 37) = X := ⟨_, rfl⟩
  have hs1 : W1.heap.size = g + 1 := by rw [← hW1, ← hg]; simp
  have hs2 : W2.heap.size = g + 2 := by rw [← hW2]; simp; omega
  have hb1 : Below w.heap.size w W1 := hW1 ▸ (Below.refl _ _).alloc (Nat.le_refl _) _
  have hb2 : Below W1.heap.size W1 W2 := hW2 ▸ (Below.refl _ _).alloc (Nat.le_refl _) _
  have hbt : Below w.heap.size w W2 := hb1.trans (hb2.mono hb1.size)
  have pc0 : Blk W1 g 35 #[.int .i64 on, .int .i64 (5), .int .i64 key.acc, .int .i64 key.ast, .int .i64 n, .string v0] := by rw [← hW1, ← hg]; exact Blk.new _ _ _
  have pc := pc0.below hb2 pc0.lt
  have pr : Blk W2 (g + 1) 37 #[.string ⟨#[]⟩, .int .i64 0, .bool false] := by rw [← hW2, ← hs1]; exact Blk.new _ _ _
  have h2 := h.below hbt
  have c1 : W2.cell? ⟨g, 1, none⟩ = some (.int .i64 (5)) := pc.cell 1
  have c2 : W2.cell? ⟨g, 2, none⟩ = some (.int .i64 key.acc) := pc.cell 2
  have c3 : W2.cell? ⟨g, 3, none⟩ = some (.int .i64 key.ast) := pc.cell 3
  have c4 : W2.cell? ⟨g, 4, none⟩ = some (.int .i64 n) := pc.cell 4
  have c5 : W2.cell? ⟨g, 5, none⟩ = some (.string v0) := pc.cell 5
  have c6 : W2.cell? ⟨r.p, 0, none⟩ = some (.int .i64 ns) := by rw [h2.blk.cell 0, hsh]; rfl
  have hgb : w.heap.size ≤ g + 1 ∧ g + 1 < W2.heap.size := by omega
  have hgo : ∀ i, r.of i → i ≠ g + 1 := fun i hi e => by have := hold i hi; omega
  have HBT := Lib.hid hbt
  have HGB := Lib.hid hgb
  have HGO := Lib.hid hgo
  have HOLD := Lib.hid hold
  have HSIM := Lib.hid hsim
  have HW1 := Lib.hid hW1
  have HW2 := Lib.hid hW2
  have HPR := Lib.hid pr
  have H2 := Lib.hid h2
  have HW := Lib.hid hg
  have hans : ansA A ns c = ⟨⟨#[]⟩, 0, (mget A.R n).isSome⟩ := by unfold ansA; rw [hk, hcn]; rfl
  have hcall := rclose_calls r n W2 h2 (by omega)
  unfold RCloseQ at hcall
  rw [hsim.bg, hsim.R, hrows] at hcall
  obtain ⟨b, hb'⟩ : ∃ b, (mget A.R n).isSome = b := ⟨_, rfl⟩
  rw [hb'] at hcall hans
  have hsim2 : ∀ wx r', TurnR W2 wx r r' ∧ r'.rowsA = A.rows ∧ openR 0 r'.rds = mdel A.R n ∧ r'.rds.length = A.bg → RSim r' (stepA A c) := fun wx r' hq => by
    have : stepA A c = { A with R := mdel A.R n } := by unfold stepA; rw [hk, hcn]; rfl
    rw [this]
    exact ⟨hq.2.1, hq.2.2.1, hq.2.2.2⟩
  have HANS := Lib.hid hans
  have HSIM2 := Lib.hid hsim2
  have HCALL := Lib.hid hcall
  clear hans hcall hsim2 hb'
  clear hbt hgb hgo hold hsim hb hW1 hW2 hs1 hs2 hb1 hb2 pc0 pc pr h2 hg h hrows hwf hk hkey hcn hcv hcs hce hsh hrl hdl hgl
  go_enter Tryz.func11, Tryz.ntmps11
  go_wp2_with (fail)
  rw [HW1.out, HW2.out, HW.out]
  go_wp2_with (fail)
  refine HCALL.out.mono ?_
  rintro e wx ⟨r', rfl, hq⟩
  have HQ := Lib.hid hq
  clear hq
  have HT := Lib.hid HQ.out.1
  have HSX := Lib.hid (HSIM2.out wx r' HQ.out)
  have hrx := HPR.out.but HT.out.but (fun h => HGO.out _ h rfl)
  have HRX := Lib.hid hrx
  have z0 : wx.frozen? ⟨g + 1, 0, none⟩ = false := hrx.frozen 0
  have z1 : wx.frozen? ⟨g + 1, 1, none⟩ = false := hrx.frozen 1
  have z2 : wx.frozen? ⟨g + 1, 2, none⟩ = false := hrx.frozen 2
  have y0 : wx.cell? ⟨g + 1, 0, none⟩ = some (.string ⟨#[]⟩) := hrx.cell 0
  have y1 : wx.cell? ⟨g + 1, 1, none⟩ = some (.int .i64 0) := hrx.cell 1
  have y2 : wx.cell? ⟨g + 1, 2, none⟩ = some (.bool false) := hrx.cell 2
  clear hrx
  go_wp2_with (fail)
  have hrr := ((HRX.out.set_ 0 (.string ⟨#[]⟩)).set_ 1 (.int .i64 0)).set_ 2 (.bool b)
  have hfb : But wx (((wx.setCell ⟨g + 1, 0, none⟩ (.string ⟨#[]⟩)).setCell ⟨g + 1, 1, none⟩ (.int .i64 0)).setCell ⟨g + 1, 2, none⟩ (.bool b)) (fun i => i = g + 1) := (((But.refl wx (fun i => i = g + 1)).setCell (p := ⟨g + 1, 0, none⟩) (fun _ => rfl) _).setCell (p := ⟨g + 1, 1, none⟩) (fun _ => rfl) _).setCell (p := ⟨g + 1, 2, none⟩) (fun _ => rfl) _
  refine ⟨rfl, _, results_cell1 Tryz.results11 rfl [.string ⟨#[]⟩, .int .i64 0, .bool b] hrr Tryz.underlying37 rfl sizeSaid, _, ?_, tell_end HBT.out HGB.out HOLD.out HT.out HSX.out hfb⟩
  rw [HANS.out]
  rfl
set_option maxRecDepth 100000 in
set_option maxHeartbeats 4000000 in
theorem tell_k7 (r : RS) (A : AbS) (m ns : Nat) (on : Int) (key : Key) (n : Int) (v0 : ByteArray) (c : CallV) (hce : c = ⟨on, 7, key, n, v0⟩) (w : World) (h : RSAt w r) (hsim : RSim r A) (hsh : r.sh = ns) (hb : BndA A m) (hm : m ≤ 3000000000000) (hwf : c.n ≤ 9223372036854775807) :
    Calls Tryz.prog 11 #[.pointer (some ⟨r.p, 0, none⟩), .agg c.cs.toArray] w (TellQ w r A ns c) := by
  have hk : c.kind = 7 := by rw [hce]
  have hkey : c.key = key := by rw [hce]
  have hcn : c.n = n := by rw [hce]
  have hcv : c.v = v0 := by rw [hce]
  have hcs : c.cs.toArray = #[.int .i64 on, .int .i64 (7), .int .i64 key.acc, .int .i64 key.ast, .int .i64 n, .string v0] := by rw [hce]; rfl
  rw [hcs]
  have hold : ∀ i, r.of i → i < w.heap.size := fun i hi => h.lt hi
  have hrows := hsim.rows
  have hrl : r.rows.length ≤ m := by have := hb.r; rw [← hrows] at this; unfold RS.rowsA at this; simpa using this
  have hdl : r.rds.length ≤ m := by rw [hsim.bg]; exact hb.b
  have hgl : (getR r.rowsA key).length ≤ m := by rw [hrows]; exact Nat.le_trans (getR_le hb.nd key) hb.t
  obtain ⟨g, hg⟩ : ∃ g, w.heap.size = g := ⟨_, rfl⟩
  obtain ⟨W1, hW1⟩ : ∃ X, w.alloc (.cells #[.int .i64 on, .int .i64 (7), .int .i64 key.acc, .int .i64 key.ast, .int .i64 n, .string v0] 35) = X := ⟨_, rfl⟩
  obtain ⟨W2, hW2⟩ : ∃ X, W1.alloc (.cells #[.string ⟨#[]⟩, .int .i64 0, .bool false] 37) = X := ⟨_, rfl⟩
  have hs1 : W1.heap.size = g + 1 := by rw [← hW1, ← hg]; simp
  have hs2 : W2.heap.size = g + 2 := by rw [← hW2]; simp; omega
  have hb1 : Below w.heap.size w W1 := hW1 ▸ (Below.refl _ _).alloc (Nat.le_refl _) _
  have hb2 : Below W1.heap.size W1 W2 := hW2 ▸ (Below.refl _ _).alloc (Nat.le_refl _) _
  have hbt : Below w.heap.size w W2 := hb1.trans (hb2.mono hb1.size)
  have pc0 : Blk W1 g 35 #[.int .i64 on, .int .i64 (7), .int .i64 key.acc, .int .i64 key.ast, .int .i64 n, .string v0] := by rw [← hW1, ← hg]; exact Blk.new _ _ _
  have pc := pc0.below hb2 pc0.lt
  have pr : Blk W2 (g + 1) 37 #[.string ⟨#[]⟩, .int .i64 0, .bool false] := by rw [← hW2, ← hs1]; exact Blk.new _ _ _
  have h2 := h.below hbt
  have c1 : W2.cell? ⟨g, 1, none⟩ = some (.int .i64 (7)) := pc.cell 1
  have c2 : W2.cell? ⟨g, 2, none⟩ = some (.int .i64 key.acc) := pc.cell 2
  have c3 : W2.cell? ⟨g, 3, none⟩ = some (.int .i64 key.ast) := pc.cell 3
  have c4 : W2.cell? ⟨g, 4, none⟩ = some (.int .i64 n) := pc.cell 4
  have c5 : W2.cell? ⟨g, 5, none⟩ = some (.string v0) := pc.cell 5
  have c6 : W2.cell? ⟨r.p, 0, none⟩ = some (.int .i64 ns) := by rw [h2.blk.cell 0, hsh]; rfl
  have hgb : w.heap.size ≤ g + 1 ∧ g + 1 < W2.heap.size := by omega
  have hgo : ∀ i, r.of i → i ≠ g + 1 := fun i hi e => by have := hold i hi; omega
  have HBT := Lib.hid hbt
  have HGB := Lib.hid hgb
  have HGO := Lib.hid hgo
  have HOLD := Lib.hid hold
  have HSIM := Lib.hid hsim
  have HW1 := Lib.hid hW1
  have HW2 := Lib.hid hW2
  have HPR := Lib.hid pr
  have H2 := Lib.hid h2
  have HW := Lib.hid hg
  have hans : ansA A ns c = ⟨⟨#[]⟩, pruneN (getR A.rows key) (minL n A.R), false⟩ := by unfold ansA; rw [hk, hkey, hcn]; rfl
  have hcall := rpruneS_calls r key n W2 h2 (by omega) (by omega) (by omega)
  unfold RPruneQ at hcall
  rw [hsim.R, hrows] at hcall
  obtain ⟨mn, hmn'⟩ : ∃ mn, minL n A.R = mn := ⟨_, rfl⟩
  rw [hmn'] at hcall hans
  obtain ⟨q, hq'⟩ : ∃ q, pruneN (getR A.rows key) mn = q := ⟨_, rfl⟩
  rw [hq'] at hcall hans
  have hsim2 : ∀ wx r', TurnR W2 wx r r' ∧ r'.rowsA = prR A.rows key mn ∧ r'.rds = r.rds → RSim r' (stepA A c) := fun wx r' hq => by
    have : stepA A c = { A with rows := prR A.rows key mn } := by unfold stepA; rw [hk, hkey, hcn, hmn']; rfl
    rw [this]
    exact ⟨hq.2.1, by rw [hq.2.2]; exact hsim.R, by rw [hq.2.2]; exact hsim.bg⟩
  have HANS := Lib.hid hans
  have HSIM2 := Lib.hid hsim2
  have HCALL := Lib.hid hcall
  clear hans hcall hsim2 hmn' hq'
  clear hbt hgb hgo hold hsim hb hW1 hW2 hs1 hs2 hb1 hb2 pc0 pc pr h2 hg h hrows hwf hk hkey hcn hcv hcs hce hsh hrl hdl hgl
  go_enter Tryz.func11, Tryz.ntmps11
  go_wp2_with (fail)
  rw [HW1.out, HW2.out, HW.out]
  go_wp2_with (fail)
  refine HCALL.out.mono ?_
  rintro e wx ⟨r', rfl, hq⟩
  have HQ := Lib.hid hq
  clear hq
  have HT := Lib.hid HQ.out.1
  have HSX := Lib.hid (HSIM2.out wx r' HQ.out)
  have hrx := HPR.out.but HT.out.but (fun h => HGO.out _ h rfl)
  have HRX := Lib.hid hrx
  have z0 : wx.frozen? ⟨g + 1, 0, none⟩ = false := hrx.frozen 0
  have z1 : wx.frozen? ⟨g + 1, 1, none⟩ = false := hrx.frozen 1
  have z2 : wx.frozen? ⟨g + 1, 2, none⟩ = false := hrx.frozen 2
  have y0 : wx.cell? ⟨g + 1, 0, none⟩ = some (.string ⟨#[]⟩) := hrx.cell 0
  have y1 : wx.cell? ⟨g + 1, 1, none⟩ = some (.int .i64 0) := hrx.cell 1
  have y2 : wx.cell? ⟨g + 1, 2, none⟩ = some (.bool false) := hrx.cell 2
  clear hrx
  go_wp2_with (fail)
  have hrr := ((HRX.out.set_ 0 (.string ⟨#[]⟩)).set_ 1 (.int .i64 q)).set_ 2 (.bool false)
  have hfb : But wx (((wx.setCell ⟨g + 1, 0, none⟩ (.string ⟨#[]⟩)).setCell ⟨g + 1, 1, none⟩ (.int .i64 q)).setCell ⟨g + 1, 2, none⟩ (.bool false)) (fun i => i = g + 1) := (((But.refl wx (fun i => i = g + 1)).setCell (p := ⟨g + 1, 0, none⟩) (fun _ => rfl) _).setCell (p := ⟨g + 1, 1, none⟩) (fun _ => rfl) _).setCell (p := ⟨g + 1, 2, none⟩) (fun _ => rfl) _
  refine ⟨rfl, _, results_cell1 Tryz.results11 rfl [.string ⟨#[]⟩, .int .i64 q, .bool false] hrr Tryz.underlying37 rfl sizeSaid, _, ?_, tell_end HBT.out HGB.out HOLD.out HT.out HSX.out hfb⟩
  rw [HANS.out]
  rfl
theorem tell_calls (r : RS) (A : AbS) (m ns : Nat) (c : CallV) (w : World) (h : RSAt w r) (hsim : RSim r A) (hsh : r.sh = ns) (hb : BndA A m) (hm : m ≤ 3000000000000) (hwf : c.n ≤ 9223372036854775807) :
    Calls Tryz.prog 11 #[.pointer (some ⟨r.p, 0, none⟩), .agg c.cs.toArray] w (TellQ w r A ns c) := by
  obtain ⟨on, kd, key, n, v0⟩ := c
  by_cases h0 : kd = 0
  · subst h0; exact tell_k0 r A m ns on key n v0 _ rfl w h hsim hsh hb hm hwf
  by_cases h1 : kd = 1
  · subst h1; exact tell_k1 r A m ns on key n v0 _ rfl w h hsim hsh hb hm hwf
  by_cases h2 : kd = 2
  · subst h2; exact tell_k2 r A m ns on key n v0 _ rfl w h hsim hsh hb hm hwf
  by_cases h4 : kd = 4
  · subst h4; exact tell_k4 r A m ns on key n v0 _ rfl w h hsim hsh hb hm hwf
  by_cases h5 : kd = 5
  · subst h5; exact tell_k5 r A m ns on key n v0 _ rfl w h hsim hsh hb hm hwf
  by_cases h6 : kd = 6
  · subst h6; exact tell_k6 r A m ns on key n v0 _ rfl w h hsim hsh hb hm hwf
  by_cases h7 : kd = 7
  · subst h7; exact tell_k7 r A m ns on key n v0 _ rfl w h hsim hsh hb hm hwf
  by_cases h8 : kd = 8
  · subst h8; exact tell_k8 r A m ns on key n v0 _ rfl w h hsim hsh hb hm hwf
  exact tell_kD r A m ns on kd key n v0 _ rfl w h hsim hsh hb hm hwf ⟨h0, h1, h2, h4, h5, h6, h7, h8⟩
end Go.Proofs.YtflkddllofeiaaaGreatDoor
