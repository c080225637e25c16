/- Words for law ChainWalks: the state of the first walk's round. -/
import Derived.Test.YtmljiegeingpeaaDoorWalksP10
import Derived.Test.YtmljiegeingpeaaDoorRoundReg
import Derived.Test.YtmljiegeingpeaaDoorAllLaw
namespace Go.Proofs.YtmljiegeingpeaaDoor
set_option linter.unusedSimpArgs false
set_option linter.unusedVariables false
open Go.RowKit Go.Shelf

theorem keepsFrom_but {B : Nat} {W W' : World} {S : Nat → Prop} (h : But W W' S) (hS : ∀ i o, B ≤ i → S i → W.heap[i]? = some o → o.isCells = true) : KeepsFrom B W W' :=
  ⟨h.size, fun k o hB hk ho => (h.block k (Array.getElem?_eq_some_iff.1 hk).1 (fun hs => by have := hS k o hB hs hk; rw [ho] at this; cases this)).trans hk⟩
theorem blk_cells {W : World} {g : Nat} {t : TypeId} {cs : Array Value} (h : Blk W g t cs) {o : Obj} (ho : W.heap[g]? = some o) : o.isCells = true := by
  have h' : W.heap[g]? = some (.cells cs t (0, 0)) := h
  rw [h'] at ho; cases ho; rfl
theorem own_cells {W : World} {base : Nat} {e : TypeId} {size n : Nat} {v : Value} {xs : List Value} (h : W.ownsRow base e size v n xs) {i : Nat} (hi : v.ownBlock = some i) {o : Obj} (ho : W.heap[i]? = some o) : o.isCells = true := by
  rcases h.2 with h0 | ⟨g, cap, cur, rfl, h1, h2, h3⟩
  · rw [h0.1] at hi; cases hi
  · cases hi
    rw [h2] at ho; cases ho; rfl
theorem chn_cells {W : World} {p : Nat} {sv : Value} {L : List VerS} (h : Chn W p sv L) {i : Nat} (hi : OfC p sv i) {o : Obj} (ho : W.heap[i]? = some o) : o.isCells = true := by
  rcases hi with rfl | hi
  · exact blk_cells h.blk ho
  · exact own_cells h.row hi ho
theorem chn_kept {W W' : World} {p : Nat} {sv : Value} {L : List VerS} {row : Option Nat} (h : Chn W p sv L) (hg : W.grownBy W' row) (hr : ∀ r, row = some r → ∃ o : Obj, W.heap[r]? = some o ∧ o.isCells = false) : Chn W' p sv L :=
  ⟨blk_kept h.blk hg hr, own_kept2 h.row hg hr, h.up, h.len⟩
theorem reads_but {W W' : World} {S : Nat → Prop} {B s n : Nat} {A : Option Addr} {xs : List Value} (h : Reads W B s A n xs) (hB : B ≤ W.heap.size) (hb : But W W' S) (hS : ∀ i, S i → B ≤ i) : Reads W' B s A n xs :=
  h.keep fun q hq => World.cell?_of_block (hb.block q.block (by omega) (fun hs => by have := hS _ hs; omega))

/-- The state of a round of the walk: sv, ov: the chain's row, what has been given. -/
structure WkS (L : List VerS) (acts : List ActS) (stop : Int) (W4 : World) (p : Nat) (sv0 : Value) (gq : Nat) (pre : List VerS) (W : World) (sv ov : Value) : Prop where
  chn : Chn W p sv (wkAt L acts pre.length).2
  new : ∀ i, OfC p sv i → OfC p sv0 i ∨ W4.heap.size ≤ i
  box : Blk W gq 46 #[ov]
  row : W.ownsRow W4.heap.size 72 2 ov pre.length (versC pre)
  fst : (wkAt L acts pre.length).1 = pre
  not : ∀ j, j < pre.length → wkEnd L acts stop j = false
  but : But W4 W (fun i => i = gq ∨ OfC p sv0 i)
section
variable {L : List VerS} {acts : List ActS} {stop : Int} {W4 W : World} {p gq : Nat} {sv0 sv ov : Value} {pre : List VerS}
theorem WkS.kept {W' : World} {row : Option Nat} (h : WkS L acts stop W4 p sv0 gq pre W sv ov) (hg : W.grownBy W' row) (hr : ∀ r, row = some r → W4.heap.size ≤ r ∧ ∃ o : Obj, W.heap[r]? = some o ∧ o.isCells = false) : WkS L acts stop W4 p sv0 gq pre W' sv ov :=
  have hr' : ∀ r, row = some r → ∃ o : Obj, W.heap[r]? = some o ∧ o.isCells = false := fun r e => (hr r e).2
  ⟨chn_kept h.chn hg hr', h.new, blk_kept h.box hg hr', own_kept2 h.row hg hr', h.fst, h.not, h.but.grown hg (fun i hi e => by have := (hr i e).1; omega)⟩
theorem WkS.old {L0 : List VerS} (h : WkS L acts stop W4 p sv0 gq pre W sv ov) (hC : Chn W4 p sv0 L0) {g : Nat} {t : TypeId} {cs : Array Value} (hb : Blk W4 g t cs) (hne : g ≠ gq) (h1 : 76 ≠ t) (h2 : 78 ≠ t) : Blk W g t cs :=
  hb.but h.but (fun hh => hh.elim hne (of_blk_ne hb hC h1 h2))
/-- A round's end: an act perhaps (W5), the version given (W6, a new cell's content). -/
theorem WkS.next {L0 : List VerS} (h : WkS L acts stop W4 p sv0 gq pre W sv ov) (hC0 : Chn W4 p sv0 L0) (hq : gq < W4.heap.size) {W5 W6 : World} {sv5 ov6 : Value} {M5 : List VerS} {x : VerS} {o : Obj}
    (hC5 : Chn W5 p sv5 M5) (hb5 : But W W5 (OfC p sv)) (hsv : ∀ b, sv5.ownBlock = some b → sv.ownBlock = some b ∨ W.heap.size ≤ b)
    (hg6 : (W5.alloc o).grownBy W6 ov.ownBlock) (hO6 : W6.ownsRow W4.heap.size 72 2 ov6 (pre.length + 1) (versC pre ++ [.int .i64 x.n, .string x.v]))
    (h1 : (wkAt L acts (pre.length + 1)).1 = pre ++ [x]) (h2 : (wkAt L acts (pre.length + 1)).2 = M5) (hn : wkEnd L acts stop pre.length = false) :
    WkS L acts stop W4 p sv0 gq (pre ++ [x]) (W6.setCell ⟨gq, 0, none⟩ ov6) sv5 ov6 ∧ KeepsFrom W4.heap.size W (W6.setCell ⟨gq, 0, none⟩ ov6) ∧ Blk W6 gq 46 #[ov] := by
  have e1 : (pre ++ [x]).length = pre.length + 1 := by simp
  have e2 : versC (pre ++ [x]) = versC pre ++ [.int .i64 x.n, .string x.v] := by simp [versC, VerS.cs]
  have hrow0 : RowR W ov pre := own_base0 h.row
  have hnC : ∀ b, ov.ownBlock = some b → ¬ OfC p sv b := chn_row_ne h.chn hrow0
  have row5 : W5.ownsRow W4.heap.size 72 2 ov pre.length (versC pre) := own_but h.row hb5 hnC
  have row5' : RowR W5 ov pre := own_base0 row5
  have hnC5 : ∀ b, ov.ownBlock = some b → ¬ OfC p sv5 b := chn_row_ne hC5 row5'
  have box5 : Blk W5 gq 46 #[ov] := h.box.but hb5 (of_blk_ne h.box h.chn (by decide) (by decide))
  have hob : ov.ownBlock ≠ some gq := own_blk_ne row5 box5 (by decide)
  have box6 : Blk W6 gq 46 #[ov] := (box5.alloc o).grown hg6 (Ne.symm hob)
  have hC6 : Chn W6 p sv5 M5 := (hC5.alloc o).grown hg6 (fun r e => hnC5 r e)
  have hC7 : Chn (W6.setCell ⟨gq, 0, none⟩ ov6) p sv5 M5 := chn_far box6 hC6 (by decide) (by decide)
  have hlt6 : ∀ b, ov.ownBlock = some b → W4.heap.size ≤ b := fun b hb => own_base h.row hb
  have hnb6 : ∀ b, ov6.ownBlock = some b → b ≠ gq := fun b hb e => by have := own_base hO6 hb; omega
  have hbut : But W (W6.setCell ⟨gq, 0, none⟩ ov6) (fun i => i = gq ∨ OfC p sv i ∨ ov.ownBlock = some i) := by
    have ha : But W (W5.alloc o) (fun i => i = gq ∨ OfC p sv i ∨ ov.ownBlock = some i) := (hb5.weak (fun i _ hi => .inr (.inl hi))).alloc o
    exact (ha.grown hg6 (fun i _ e => .inr (.inr e))).setCell (fun _ => .inl rfl) _
  refine ⟨⟨?_, ?_, box6.set_ 0 _, ?_, ?_, ?_, ?_⟩, keepsFrom_but hbut ?_, box6⟩
  · rw [e1, h2]; exact hC7
  · rintro i (rfl | hi)
    · exact h.new _ (.inl rfl)
    · rcases hsv i hi with h3 | h3
      · exact h.new _ (.inr h3)
      · exact .inr (Nat.le_trans h.but.size h3)
  · rw [e1, e2]
    exact own_but (S := fun i => i = gq) hO6 ((But.refl W6 (fun i => i = gq)).setCell (fun _ => rfl) _) (fun b hb he => hnb6 b hb he)
  · rw [e1]; exact h1
  · intro j hj
    rw [e1] at hj
    rcases Nat.lt_or_ge j pre.length with h3 | h3
    · exact h.not j h3
    · obtain rfl : j = pre.length := by omega
      exact hn
  · refine h.but.trans hbut (fun i hi hs => ?_)
    rcases hs with h3 | h3 | h3
    · exact .inl h3
    · rcases h.new i h3 with h4 | h4
      · exact .inr h4
      · omega
    · have := hlt6 i h3; omega
  · rintro i o' _ (rfl | hi | hi) ho
    · exact blk_cells h.box ho
    · exact chn_cells h.chn hi ho
    · exact own_cells h.row hi ho
end

/-- Behind the first walk: where all lies. -/
structure Aft (g gx gw p : Nat) (OA : Option Addr) (oc : Nat) (VA : Option Addr) (vc : Nat) (Out Beh : List VerS) (sv ov : Value) (W : World) : Prop where
  rs : Blk W (g + 1 + 1) 4 #[.bool false]
  x : Blk W gx 23 #[.pointer (some ⟨p, 0, none⟩)]
  bx : Blk W (gx + 1) 23 #[.pointer (some ⟨p, 0, none⟩)]
  wk : Blk W (gx + 1 + 1) 35 #[.func (.func 34) #[] #[.pointer (some ⟨gx + 1, 0, none⟩)]]
  wa : Blk W gw 46 #[.slice OA Out.length oc]
  be : Blk W (gw + 1) 46 #[.slice VA Beh.length vc]
  go : Blk W (gw + 1 + 1) 46 #[ov]
  c : Chn W p sv Beh
  ro : RowR W (.slice OA Out.length oc) Out
  rb : RowR W (.slice VA Beh.length vc) Beh
  rg : RowR W ov Out
theorem Aft.below {g gx gw p : Nat} {OA : Option Addr} {oc : Nat} {VA : Option Addr} {vc : Nat} {Out Beh : List VerS} {sv ov : Value} {W W' : World} (h : Aft g gx gw p OA oc VA vc Out Beh sv ov W) (hb : Below W.heap.size W W') : Aft g gx gw p OA oc VA vc Out Beh sv ov W' :=
  ⟨h.rs.below hb h.rs.lt, h.x.below hb h.x.lt, h.bx.below hb h.bx.lt, h.wk.below hb h.wk.lt, h.wa.below hb h.wa.lt, h.be.below hb h.be.lt, h.go.below hb h.go.lt, h.c.below hb, rowR_below h.ro hb, rowR_below h.rb hb, rowR_below h.rg hb⟩
/-- The second walk's list grows by one. -/
theorem again_next {wc W w7 : World} {gq n : Nat} {qv v7 : Value} {xs ys : List Value} {o : Obj} (c0 : Blk W gq 46 #[qv]) (hown : W.ownsRow (gq + 1) 72 2 qv n xs) (hB : Below wc.heap.size wc W) (hq : wc.heap.size ≤ gq)
    (hg : (W.alloc o).grownBy w7 qv.ownBlock) (hO : w7.ownsRow (gq + 1) 72 2 v7 (n + 1) ys) :
    Blk w7 gq 46 #[qv] ∧ Blk (w7.setCell ⟨gq, 0, none⟩ v7) gq 46 #[v7] ∧ (w7.setCell ⟨gq, 0, none⟩ v7).ownsRow (gq + 1) 72 2 v7 (n + 1) ys ∧
      But W (w7.setCell ⟨gq, 0, none⟩ v7) (fun i => i = gq ∨ qv.ownBlock = some i) ∧ Below wc.heap.size wc (w7.setCell ⟨gq, 0, none⟩ v7) := by
  have hne : qv.ownBlock ≠ some gq := fun h => by have := own_base hown h; omega
  have b7 : Blk w7 gq 46 #[qv] := (c0.alloc o).grown hg (Ne.symm hne)
  have hbut : But W (w7.setCell ⟨gq, 0, none⟩ v7) (fun i => i = gq ∨ qv.ownBlock = some i) :=
    (((But.refl W (fun i => i = gq ∨ qv.ownBlock = some i)).alloc o).grown hg (fun i _ e => .inr e)).setCell (fun _ => .inl rfl) _
  refine ⟨b7, b7.set_ 0 _, own_but (S := fun i => i = gq) hO ((But.refl w7 (fun i => i = gq)).setCell (fun _ => rfl) _) (fun b hb he => by have := own_base hO hb; omega), hbut, hB.trans (hbut.to_below ?_ hB.size)⟩
  rintro i (rfl | hi)
  · exact hq
  · have := own_base hown hi; omega
theorem again_keeps {W W' : World} {B gq n : Nat} {qv : Value} {xs : List Value} (c0 : Blk W gq 46 #[qv]) (hown : W.ownsRow (gq + 1) 72 2 qv n xs) (h : But W W' (fun i => i = gq ∨ qv.ownBlock = some i)) : KeepsFrom B W W' :=
  keepsFrom_but h (by
    rintro i o _ (rfl | hi) ho
    · exact blk_cells c0 ho
    · exact own_cells hown hi ho)
theorem again_loop {W W' : World} {l gq n : Nat} {r : Loop} {qv : Value} {xs : List Value} (c0 : Blk W gq 46 #[qv]) (hown : W.ownsRow (gq + 1) 72 2 qv n xs) (h : But W W' (fun i => i = gq ∨ qv.ownBlock = some i)) (hr : W.heap[l]? = some (.loop r)) : W'.heap[l]? = some (.loop r) :=
  (again_keeps (B := 0) c0 hown h).same l _ (Nat.zero_le _) hr rfl
theorem versC_snoc (l : List VerS) (x : VerS) : versC (l ++ [x]) = versC l ++ [.int .i64 x.n, .string x.v] := by simp [versC, VerS.cs]
/-- Behind the third walk (W': the count alone has turned since W9). -/
theorem again_fin {wc W W8 W9 W' : World} {gq gc0 n : Nat} {qv v7 : Value} {ys : List Value} (hbut : But W W8 (fun i => i = gq ∨ qv.ownBlock = some i)) (hB : Below wc.heap.size wc W8) (hb : Blk W8 gq 46 #[v7]) (hr : W8.ownsRow (gq + 1) 72 2 v7 n ys)
    (h9 : Below W8.heap.size W8 W9) (hg : W8.heap.size = gc0) (h : But W9 W' (fun i => i = gc0)) :
    But W W' (fun i => i = gq ∨ qv.ownBlock = some i) ∧ Below wc.heap.size wc W' ∧ Blk W' gq 46 #[v7] ∧ W'.ownsRow (gq + 1) 72 2 v7 n ys := by
  have h8 : But W8 W' (fun _ => False) := (But.of_below h9 _).trans h (fun i hi e => by omega)
  refine ⟨hbut.trans h8 (fun _ _ h => h.elim), hB.trans (h8.below.mono hB.size), hb.but h8 (fun h => h), own_but hr h8 (fun _ _ h => h)⟩
theorem keepK_two {K : Nat → Prop} {W5 W W' : World} (h : Below W5.heap.size W5 W) (h' : Below W5.heap.size W5 W') (hs : W.heap.size ≤ W'.heap.size) (hK : ∀ i, K i → i < W5.heap.size) : KeepK K W W' :=
  ⟨hs, fun i hi => (h'.block i (hK i hi)).trans (h.block i (hK i hi)).symm⟩
theorem Aft.walk_lt {g gx gw p : Nat} {OA : Option Addr} {oc : Nat} {VA : Option Addr} {vc : Nat} {Out Beh : List VerS} {sv ov : Value} {W : World} (h : Aft g gx gw p OA oc VA vc Out Beh sv ov W) : ∀ i, WalkK (gx + 1) p sv i → i < W.heap.size := by
  rintro i (rfl | hi)
  · exact h.bx.lt
  · exact h.c.of_lt hi
end Go.Proofs.YtmljiegeingpeaaDoor
