/- QueueScript: what the script's loop keeps. -/
import Derived.Test.YtmcknfpohnobdaaDoorStp19
import Derived.Test.YtmcknfpohnobdaaDoorSamI19
import Derived.Test.YtmcknfpohnobdaaDoorApartInts
namespace Go.Proofs.YtmcknfpohnobdaaDoor
set_option linter.unusedSimpArgs false
set_option linter.unusedVariables false
open Go.RowKit Go.MapKept Go.ChangeMaps Go.Maps

section
variable {w0 w w' : World} {a a' b : QV} {d d' e : RV} {S T : Nat → Prop}
theorem PM.other (h : PM w0 w b e S) (hb : But w w' T) (hT : ∀ i, T i → ¬ b.of i ∧ ¬ e.of i ∧ w0.heap.size ≤ i) : PM w0 w' b e S :=
  ⟨QAt.but h.qa hb (fun i hi t => (hT i t).1 hi), RAt.but h.ra hb (fun i hi t => (hT i t).2.1 hi), h.dis, h.la, h.ld, fun i hi => ⟨Nat.lt_of_lt_of_le (h.own i hi).1 hb.size, (h.own i hi).2⟩, h.ls, h.bel.trans (hb.to_below (fun i t => (hT i t).2.2) h.bel.size)⟩
theorem PM.regain (h : PM w0 w a d S) (h' : PM w0 w' a' d' (fun _ => False)) (hsz : w.heap.size ≤ w'.heap.size) (na : ∀ i, a'.of i → a.of i ∨ w.heap.size ≤ i) (nd : ∀ i, d'.of i → d.of i ∨ w.heap.size ≤ i) : PM w0 w' a' d' S :=
  ⟨h'.qa, h'.ra, h'.dis, h'.la, h'.ld, fun i hi => ⟨Nat.lt_of_lt_of_le (h.own i hi).1 hsz, fun q => (na i q).elim (h.own i hi).2.1 (fun q => by have := (h.own i hi).1; omega), fun q => (nd i q).elim (h.own i hi).2.2 (fun q => by have := (h.own i hi).1; omega)⟩, h.ls, h'.bel⟩
end
def Sown (gx gr : Nat) (ov wv : Value) (P Q : List IL) (i : Nat) : Prop := i = gx ∨ i = gr ∨ ov.ownBlock = some i ∨ wv.ownBlock = some i ∨ (∃ x ∈ P, x.v.ownBlock = some i) ∨ ∃ x ∈ Q, x.v.ownBlock = some i
def upd {α : Type} (a : Nat → α) (j : Nat) (x : α) : Nat → α := fun k => if k = j then x else a k
theorem upd_at {α : Type} (a : Nat → α) (j : Nat) (x : α) : upd a j x j = x := if_pos rfl
theorem upd_ne {α : Type} (a : Nat → α) {j k : Nat} (x : α) (h : k ≠ j) : upd a j x k = a k := if_neg h
structure Scr (w0 w : World) (n gx gr : Nat) (a : Nat → QV) (d : Nat → RV) (ov wv : Value) (P Q : List IL) : Prop where
  bx : Blk w gx 26 #[eP (a 0).p, eP (a 1).p]
  br : Blk w gr 29 #[eP (d 0).q, eP (d 1).q]
  pm : ∀ j, j < 2 → PM w0 w (a j) (d j) (Sown gx gr ov wv P Q)
  sm : ∀ j, j < 2 → Same19 (a j) (d j)
  far : ∀ j k, j < 2 → k < 2 → j ≠ k → ∀ i, (a j).of i ∨ (d j).of i → ¬ (a k).of i ∧ ¬ (d k).of i
  len : ∀ j, j < 2 → (a j).L.length ≤ n
  rowO : w.ownsRow w0.heap.size 35 1 ov P.length (P.flatMap IL.cs)
  rowW : w.ownsRow w0.heap.size 35 1 wv Q.length (Q.flatMap IL.cs)
  ow : ∀ i, ov.ownBlock = some i → wv.ownBlock ≠ some i
  pl : P.length ≤ n
  ql : Q.length ≤ n
  inP : ∀ x ∈ P, w.ownsRow w0.heap.size 3 1 x.v x.xs.length (intsC x.xs)
  inQ : ∀ x ∈ Q, w.ownsRow w0.heap.size 3 1 x.v x.xs.length (intsC x.xs)
  lens : ∀ x ∈ P, x.xs.length ≤ n
  sep : ∃ o : Nat → Nat, ∀ j (hj : j < P.length) i, P[j].v.ownBlock = some i → o i = j
section
variable {w0 w w' : World} {n gx gr : Nat} {a : Nat → QV} {d : Nat → RV} {ov wv : Value} {P Q : List IL} {T : Nat → Prop}
/-- The law's own memory under what touches none of it. -/
theorem Scr.keepS (h : Scr w0 w n gx gr a d ov wv P Q) (hb : But w w' T) (hT : ∀ i, T i → ¬ Sown gx gr ov wv P Q i) :
    Blk w' gx 26 #[eP (a 0).p, eP (a 1).p] ∧ Blk w' gr 29 #[eP (d 0).q, eP (d 1).q] ∧ w'.ownsRow w0.heap.size 35 1 ov P.length (P.flatMap IL.cs) ∧ w'.ownsRow w0.heap.size 35 1 wv Q.length (Q.flatMap IL.cs) ∧
      (∀ x ∈ P, w'.ownsRow w0.heap.size 3 1 x.v x.xs.length (intsC x.xs)) ∧ ∀ x ∈ Q, w'.ownsRow w0.heap.size 3 1 x.v x.xs.length (intsC x.xs) :=
  ⟨h.bx.but hb (fun t => hT _ t (.inl rfl)), h.br.but hb (fun t => hT _ t (.inr (.inl rfl))), own_but h.rowO hb (fun i hi t => hT i t (.inr (.inr (.inl hi)))), own_but h.rowW hb (fun i hi t => hT i t (.inr (.inr (.inr (.inl hi))))),
    fun x hx => own_but (h.inP x hx) hb (fun i hi t => hT i t (.inr (.inr (.inr (.inr (.inl ⟨x, hx, hi⟩)))))), fun x hx => own_but (h.inQ x hx) hb (fun i hi t => hT i t (.inr (.inr (.inr (.inr (.inr ⟨x, hx, hi⟩))))))⟩
theorem Scr.below (h : Scr w0 w n gx gr a d ov wv P Q) (hb : Below w.heap.size w w') : Scr w0 w' n gx gr a d ov wv P Q := by
  obtain ⟨h1, h2, h3, h4, h5, h6⟩ := h.keepS (But.of_below hb (fun _ => False)) (fun _ t => t.elim)
  exact { h with bx := h1, br := h2, pm := fun j hj => (h.pm j hj).below hb, rowO := h3, rowW := h4, inP := h5, inQ := h6 }
theorem Scr.up (h : Scr w0 w n gx gr a d ov wv P Q) {m : Nat} (hm : n ≤ m) : Scr w0 w m gx gr a d ov wv P Q :=
  { h with len := fun j hj => Nat.le_trans (h.len j hj) hm, pl := Nat.le_trans h.pl hm, ql := Nat.le_trans h.ql hm, lens := fun x hx => Nat.le_trans (h.lens x hx) hm }
theorem Scr.bel (h : Scr w0 w n gx gr a d ov wv P Q) : Below w0.heap.size w0 w := (h.pm 0 (by decide)).bel
/-- A step on one pair. -/
theorem Scr.step (h : Scr w0 w n gx gr a d ov wv P Q) {j : Nat} (hj : j < 2) {a' : QV} {d' : RV} (hs : StepR w0 w w' (a j) (d j) a' d') : Scr w0 w' (n + 1) gx gr (upd a j a') (upd d j d') ov wv P Q := by
  obtain ⟨h1, h2, h3, h4, h5, h6⟩ := h.keepS hs.but (fun i t q => t.elim ((h.pm j hj).own i q).2.1 ((h.pm j hj).own i q).2.2)
  have hpa : ∀ k, (upd a j a' k).p = (a k).p := fun k => by
    unfold upd; split
    · rename_i q; subst q; exact hs.p
    · rfl
  have hqd : ∀ k, (upd d j d' k).q = (d k).q := fun k => by
    unfold upd; split
    · rename_i q; subst q; exact hs.q
    · rfl
  have hnew : ∀ i, (a').of i ∨ (d').of i → ((a j).of i ∨ (d j).of i) ∨ w.heap.size ≤ i := fun i hi => hi.elim (fun q => (hs.na i q).imp .inl id) (fun q => (hs.nd i q).imp .inr id)
  refine ⟨by rw [hpa, hpa]; exact h1, by rw [hqd, hqd]; exact h2, fun k hk => ?_, fun k hk => ?_, fun k l hk hl hne i hi => ?_, fun k hk => ?_, h3, h4, h.ow, Nat.le_succ_of_le h.pl, Nat.le_succ_of_le h.ql, h5, h6, fun x hx => Nat.le_succ_of_le (h.lens x hx), h.sep⟩
  · by_cases q : k = j
    · subst q
      rw [upd_at, upd_at]
      exact (h.pm k hk).regain hs.pm hs.but.size hs.na hs.nd
    · rw [upd_ne _ _ q, upd_ne _ _ q]
      exact (h.pm k hk).other hs.but (fun i t => ⟨(h.far j k hj hk (Ne.symm q) i t).1, (h.far j k hj hk (Ne.symm q) i t).2, t.elim ((h.pm j hj).la i) ((h.pm j hj).ld i)⟩)
  · by_cases q : k = j
    · subst q; rw [upd_at, upd_at]; exact hs.same
    · rw [upd_ne _ _ q, upd_ne _ _ q]; exact h.sm k hk
  · by_cases q : k = j
    · subst q
      rw [upd_at, upd_at] at hi
      rw [upd_ne _ _ (Ne.symm hne), upd_ne _ _ (Ne.symm hne)]
      rcases hnew i hi with t | t
      · exact h.far k l hk hl hne i t
      · exact ⟨fun z => by have := QAt.lt (h.pm l hl).qa z; omega, fun z => by have := RAt.ofAt (h.pm l hl).ra z; omega⟩
    · rw [upd_ne _ _ q, upd_ne _ _ q] at hi
      by_cases q2 : l = j
      · subst q2
        rw [upd_at, upd_at]
        have hk2 : i < w.heap.size := hi.elim (fun z => QAt.lt (h.pm k hk).qa z) (fun z => RAt.ofAt (h.pm k hk).ra z)
        have hno := h.far k l hk hl hne i hi
        exact ⟨fun z => (hs.na i z).elim hno.1 (fun z => by omega), fun z => (hs.nd i z).elim hno.2 (fun z => by omega)⟩
      · rw [upd_ne _ _ q2, upd_ne _ _ q2]
        exact h.far k l hk hl hne i hi
  · by_cases q : k = j
    · subst q; rw [upd_at]; exact Nat.le_trans hs.len (Nat.succ_le_succ (h.len k hk))
    · rw [upd_ne _ _ q]; exact Nat.le_succ_of_le (h.len k hk)
/-- A list handed out by the queue, told in out. -/
theorem Scr.pushP {w1 w2 : World} {o : Obj} {ov' : Value} {m : Nat} (h : Scr w0 w n gx gr a d ov wv P Q) (x : IL) (hb : Below w.heap.size w w1) (hx : w1.ownsRow w.heap.size 3 1 x.v x.xs.length (intsC x.xs))
    (hO : w2.ownsRow w0.heap.size 35 1 ov' (P.length + 1) (P.flatMap IL.cs ++ x.cs)) (hg : (w1.alloc o).grownBy w2 ov.ownBlock) (hat : ov'.ownBlock = ov.ownBlock ∨ ov'.ownBlock = some (w1.alloc o).heap.size)
    (hm : n ≤ m) (hpm : P.length + 1 ≤ m) (hxm : x.xs.length ≤ m) : Scr w0 w2 m gx gr a d ov' wv (P ++ [x]) Q := by
  have hT : But w w2 (fun i => ov.ownBlock = some i) := ((But.of_below hb _).alloc o).grown hg (fun i _ e => e)
  have h1 := h.rowO
  have hsz : w.heap.size ≤ w1.heap.size := hb.size
  have hs2 : w1.heap.size + 1 ≤ w2.heap.size := by have := hg.size; simpa using this
  have hxb : ∀ i, x.v.ownBlock = some i → w.heap.size ≤ i ∧ i < w2.heap.size := fun i hi => ⟨own_base hx hi, by have := own_lt hx hi; omega⟩
  have hold : ∀ y : IL, ∀ n, w.ownsRow w0.heap.size 3 1 y.v n (intsC y.xs) → w2.ownsRow w0.heap.size 3 1 y.v n (intsC y.xs) := fun y n hy => own_but hy hT (fun i hi e => own_own_ne hy h1 (by decide) hi e)
  have hov : ∀ i, ov'.ownBlock = some i → ov.ownBlock = some i ∨ (w.heap.size ≤ i ∧ i < w2.heap.size) := fun i hi => by
    have hlt := own_lt hO hi
    rcases hat with q | q
    · exact .inl (q ▸ hi)
    · rw [q] at hi; cases hi
      exact .inr ⟨by simp; omega, hlt⟩
  refine ⟨h.bx.but hT (own_blk_ne h1 h.bx (by decide)), h.br.but hT (own_blk_ne h1 h.br (by decide)), fun j hj => (h.pm j hj).grow (hT.weak (fun i _ e => .inr (.inr (.inl e)))) (fun i hi => ?_), h.sm, h.far, fun j hj => Nat.le_trans (h.len j hj) hm, ?_, own_but h.rowW hT (fun i hi e => h.ow i e hi), fun i hi hw => ?_, by simpa using hpm, Nat.le_trans h.ql hm, fun y hy => ?_, fun y hy => hold y _ (h.inQ y hy), fun y hy => ?_, ?_⟩
  · rcases hi with q | q | q | q | ⟨y, hy, q⟩ | q
    · exact .inl (.inl q)
    · exact .inl (.inr (.inl q))
    · exact (hov i q).imp (fun q => .inr (.inr (.inl q))) id
    · exact .inl (.inr (.inr (.inr (.inl q))))
    · rcases List.mem_append.1 hy with hy | hy
      · exact .inl (.inr (.inr (.inr (.inr (.inl ⟨y, hy, q⟩)))))
      · rw [List.mem_singleton.1 hy] at q
        exact .inr (hxb i q)
    · exact .inl (.inr (.inr (.inr (.inr (.inr q)))))
  · rw [List.length_append, List.flatMap_append]
    simpa using hO
  · rcases hov i hi with q | q
    · exact h.ow i q hw
    · have := own_lt h.rowW hw; omega
  · rcases List.mem_append.1 hy with hy | hy
    · exact hold y _ (h.inP y hy)
    · rw [List.mem_singleton.1 hy]
      have ho1 := own_but h1 (But.of_below hb (fun _ => False)) (fun _ _ h => h)
      have hT1 : But w1 w2 (fun i => ov.ownBlock = some i) := ((But.refl w1 _).alloc o).grown hg (fun i _ e => e)
      exact row_weak (own_but hx hT1 (fun i hi e => own_own_ne hx ho1 (by decide) hi e)) h.bel.size
  · rcases List.mem_append.1 hy with hy | hy
    · exact Nat.le_trans (h.lens y hy) hm
    · rw [List.mem_singleton.1 hy]; exact hxm
  · obtain ⟨f, hf⟩ := h.sep
    refine ⟨fun i => if w.heap.size ≤ i then P.length else f i, fun j hj i hi => ?_⟩
    by_cases q : j < P.length
    · rw [List.getElem_append_left q] at hi
      have hlt := own_lt (h.inP _ (List.getElem_mem q)) hi
      simp only
      rw [if_neg (by omega)]
      exact hf j q i hi
    · have hj2 : j = P.length := by simp at hj; omega
      subst hj2
      rw [List.getElem_append_right (Nat.le_refl _)] at hi
      simp only [Nat.sub_self, List.getElem_cons_zero] at hi
      simp only
      rw [if_pos (hxb i hi).1]
/-- A list of the document's, told in want. -/
theorem Scr.pushQ {w1 w2 : World} {o : Obj} {wv' : Value} {m : Nat} (h : Scr w0 w n gx gr a d ov wv P Q) (x : IL) (hb : Below w.heap.size w w1) (hx : w1.ownsRow w.heap.size 3 1 x.v x.xs.length (intsC x.xs))
    (hO : w2.ownsRow w0.heap.size 35 1 wv' (Q.length + 1) (Q.flatMap IL.cs ++ x.cs)) (hg : (w1.alloc o).grownBy w2 wv.ownBlock) (hat : wv'.ownBlock = wv.ownBlock ∨ wv'.ownBlock = some (w1.alloc o).heap.size)
    (hm : n ≤ m) (hpm : Q.length + 1 ≤ m) : Scr w0 w2 m gx gr a d ov wv' P (Q ++ [x]) := by
  have hT : But w w2 (fun i => wv.ownBlock = some i) := ((But.of_below hb _).alloc o).grown hg (fun i _ e => e)
  have h1 := h.rowW
  have hsz : w.heap.size ≤ w1.heap.size := hb.size
  have hs2 : w1.heap.size + 1 ≤ w2.heap.size := by have := hg.size; simpa using this
  have hxb : ∀ i, x.v.ownBlock = some i → w.heap.size ≤ i ∧ i < w2.heap.size := fun i hi => ⟨own_base hx hi, by have := own_lt hx hi; omega⟩
  have hold : ∀ y : IL, ∀ n, w.ownsRow w0.heap.size 3 1 y.v n (intsC y.xs) → w2.ownsRow w0.heap.size 3 1 y.v n (intsC y.xs) := fun y n hy => own_but hy hT (fun i hi e => own_own_ne hy h1 (by decide) hi e)
  have hov : ∀ i, wv'.ownBlock = some i → wv.ownBlock = some i ∨ (w.heap.size ≤ i ∧ i < w2.heap.size) := fun i hi => by
    have hlt := own_lt hO hi
    rcases hat with q | q
    · exact .inl (q ▸ hi)
    · rw [q] at hi; cases hi
      exact .inr ⟨by simp; omega, hlt⟩
  refine ⟨h.bx.but hT (own_blk_ne h1 h.bx (by decide)), h.br.but hT (own_blk_ne h1 h.br (by decide)), fun j hj => (h.pm j hj).grow (hT.weak (fun i _ e => .inr (.inr (.inr (.inl e))))) (fun i hi => ?_), h.sm, h.far, fun j hj => Nat.le_trans (h.len j hj) hm, own_but h.rowO hT (fun i hi e => h.ow i hi e), ?_, fun i hi hw => ?_, Nat.le_trans h.pl hm, by simpa using hpm, fun y hy => hold y _ (h.inP y hy), fun y hy => ?_, fun y hy => Nat.le_trans (h.lens y hy) hm, h.sep⟩
  · rcases hi with q | q | q | q | q | ⟨y, hy, q⟩
    · exact .inl (.inl q)
    · exact .inl (.inr (.inl q))
    · exact .inl (.inr (.inr (.inl q)))
    · exact (hov i q).imp (fun q => .inr (.inr (.inr (.inl q)))) id
    · exact .inl (.inr (.inr (.inr (.inr (.inl q)))))
    · rcases List.mem_append.1 hy with hy | hy
      · exact .inl (.inr (.inr (.inr (.inr (.inr ⟨y, hy, q⟩)))))
      · rw [List.mem_singleton.1 hy] at q
        exact .inr (hxb i q)
  · rw [List.length_append, List.flatMap_append]
    simpa using hO
  · rcases hov i hw with q | q
    · exact h.ow i hi q
    · have := own_lt h.rowO hi; omega
  · rcases List.mem_append.1 hy with hy | hy
    · exact hold y _ (h.inQ y hy)
    · rw [List.mem_singleton.1 hy]
      have ho1 := own_but h1 (But.of_below hb (fun _ => False)) (fun _ _ h => h)
      have hT1 : But w1 w2 (fun i => wv.ownBlock = some i) := ((But.refl w1 _).alloc o).grown hg (fun i _ e => e)
      exact row_weak (own_but hx hT1 (fun i hi e => own_own_ne hx ho1 (by decide) hi e)) h.bel.size
/-- A new pair in place j. -/
theorem Scr.fresh {w1 w3 : World} {p' bi bw q' j : Nat} {rm : Int} (h : Scr w0 w n gx gr a d ov wv P Q) (hj : j < 2) (hb1 : Below w.heap.size w w1) (hq1 : QAt w1 p' rm 0 (.slice none 0 0) bi bw [] []) (hof : ∀ i, OfQ p' (.slice none 0 0) bi bw [] [] i → w.heap.size ≤ i)
    (hb3 : Below (w1.setCell ⟨gx, j, none⟩ (eP p')).heap.size (w1.setCell ⟨gx, j, none⟩ (eP p')) w3) (hr3 : RAt w3 q' rm (.slice none 0 0) []) (hq' : (w1.setCell ⟨gx, j, none⟩ (eP p')).heap.size ≤ q') :
    Scr w0 (w3.setCell ⟨gr, j, none⟩ (eP q')) n gx gr (upd a j ⟨p', bi, bw, rm, 0, .slice none 0 0, [], []⟩) (upd d j ⟨q', rm, .slice none 0 0, []⟩) ov wv P Q := by
  obtain ⟨w2, hw2⟩ : ∃ w2, w1.setCell ⟨gx, j, none⟩ (eP p') = w2 := ⟨_, rfl⟩
  obtain ⟨w4, hw4⟩ : ∃ w4, w3.setCell ⟨gr, j, none⟩ (eP q') = w4 := ⟨_, rfl⟩
  rw [hw2] at hb3 hq'
  rw [hw4]
  have hgx := h.bx.lt
  have hgr := h.br.lt
  have hxr : gx ≠ gr := h.bx.ne_ h.br (by decide)
  have b12 : But w1 w2 (fun i => i = gx) := hw2 ▸ (But.refl w1 (fun i => i = gx)).setCell (p := ⟨gx, j, none⟩) (fun _ => rfl) _
  have b34 : But w3 w4 (fun i => i = gr) := hw4 ▸ (But.refl w3 (fun i => i = gr)).setCell (p := ⟨gr, j, none⟩) (fun _ => rfl) _
  have b14 : But w1 w4 (fun i => i = gx ∨ i = gr) := ((b12.weak (fun _ _ e => .inl e)).trans (But.of_below hb3 _) (fun _ _ e => e)).trans b34 (fun _ _ e => .inr e)
  have b04 : But w w4 (fun i => i = gx ∨ i = gr) := (But.of_below hb1 _).trans b14 (fun _ _ e => e)
  have s1 := hb1.size
  have s2 := b12.size
  have s3 := hb3.size
  have s4 := b34.size
  have e2 : w2.heap.size = w1.heap.size := by rw [← hw2]; simp [World.setCell]
  have hS : ∀ k, k < 2 → ∀ i, i = gx ∨ i = gr → ¬ (a k).of i ∧ ¬ (d k).of i ∧ w0.heap.size ≤ i := fun k hk i hi => by
    have hi2 : Sown gx gr ov wv P Q i := hi.elim .inl (fun q => .inr (.inl q))
    exact ⟨((h.pm k hk).own i hi2).2.1, ((h.pm k hk).own i hi2).2.2, (h.pm k hk).ls i hi2⟩
  have hT : ∀ {e : TypeId} {s n : Nat} {v : Value} {xs : List Value}, w.ownsRow w0.heap.size e s v n xs → e ≠ 26 → e ≠ 29 → w4.ownsRow w0.heap.size e s v n xs := fun hy n1 n2 =>
    own_but hy b04 (fun i hi q => q.elim (fun q => own_blk_ne hy h.bx n1 (q ▸ hi)) (fun q => own_blk_ne hy h.br n2 (q ▸ hi)))
  have hbx4 : ∀ cs, Blk w2 gx 26 cs → Blk w4 gx 26 cs := fun cs hk => (hk.below hb3 hk.lt).but b34 hxr
  have hbr3 : Blk w3 gr 29 #[eP (d 0).q, eP (d 1).q] := ((h.br.below hb1 hgr).but b12 (Ne.symm hxr)).below hb3 (by rw [e2]; omega)
  have hbx1 := h.bx.below hb1 hgx
  have hdof : ∀ i, OfR q' (.slice none 0 0) [] i → i = q' := by
    rintro i (q | q | ⟨e, he, _⟩)
    · exact q
    · cases q
    · cases he
  have hpmj : PM w0 w4 ⟨p', bi, bw, rm, 0, .slice none 0 0, [], []⟩ ⟨q', rm, .slice none 0 0, []⟩ (Sown gx gr ov wv P Q) := by
    have hb0 := h.bel
    refine ⟨QAt.but hq1 b14 (fun i hi q => ?_), RAt.but hr3 b34 (fun i hi q => ?_), fun i hi hi2 => ?_, fun i hi => Nat.le_trans hb0.size (hof i hi), fun i hi => ?_, fun i hi => ⟨?_, fun q => ?_, fun q => ?_⟩, (h.pm j hj).ls, hb0.trans (b04.to_below (fun i q => (hS j hj i q).2.2) hb0.size)⟩
    · have := hof i hi; rcases q with q | q <;> omega
    · have := hdof i hi; omega
    · have h1 := QAt.lt hq1 hi; have h2 := hdof i hi2; omega
    · have := hdof i hi; have := hb0.size; omega
    · have := ((h.pm j hj).own i hi).1; omega
    · have := hof i q; have := ((h.pm j hj).own i hi).1; omega
    · have := hdof i q; have := ((h.pm j hj).own i hi).1; omega
  have hpmk : ∀ k, k < 2 → k ≠ j → PM w0 w4 (a k) (d k) (Sown gx gr ov wv P Q) := fun k hk _ => (h.pm k hk).other b04 (hS k hk)
  refine ⟨?_, ?_, fun k hk => ?_, fun k hk => ?_, fun k l hk hl hne i hi => ?_, fun k hk => ?_, hT h.rowO (by decide) (by decide), hT h.rowW (by decide) (by decide), h.ow, h.pl, h.ql, fun x hx => hT (h.inP x hx) (by decide) (by decide), fun x hx => hT (h.inQ x hx) (by decide) (by decide), h.lens, h.sep⟩
  · have := hbx4 _ (hw2 ▸ hbx1.set_ j (eP p'))
    have hj2 : j = 0 ∨ j = 1 := by omega
    rcases hj2 with rfl | rfl <;> exact this
  · have := hw4 ▸ hbr3.set_ j (eP q')
    have hj2 : j = 0 ∨ j = 1 := by omega
    rcases hj2 with rfl | rfl <;> exact this
  · by_cases q : k = j
    · subst q; rw [upd_at, upd_at]; exact hpmj
    · rw [upd_ne _ _ q, upd_ne _ _ q]; exact hpmk k hk q
  · by_cases q : k = j
    · subst q; rw [upd_at, upd_at]; exact ⟨rfl, RelL.nil, fun x hx => by cases hx⟩
    · rw [upd_ne _ _ q, upd_ne _ _ q]; exact h.sm k hk
  · by_cases q : k = j
    · subst q
      rw [upd_at, upd_at] at hi
      rw [upd_ne _ _ (Ne.symm hne), upd_ne _ _ (Ne.symm hne)]
      have hge : w.heap.size ≤ i := hi.elim (fun z => hof i z) (fun z => by have := hdof i z; omega)
      exact ⟨fun z => by have := QAt.lt (h.pm l hl).qa z; omega, fun z => by have := RAt.ofAt (h.pm l hl).ra z; omega⟩
    · rw [upd_ne _ _ q, upd_ne _ _ q] at hi
      by_cases q2 : l = j
      · subst q2
        rw [upd_at, upd_at]
        have hk2 : i < w.heap.size := hi.elim (fun z => QAt.lt (h.pm k hk).qa z) (fun z => RAt.ofAt (h.pm k hk).ra z)
        exact ⟨fun z => by have := hof i z; omega, fun z => by have := hdof i z; omega⟩
      · rw [upd_ne _ _ q2, upd_ne _ _ q2]
        exact h.far k l hk hl hne i hi
  · by_cases q : k = j
    · subst q; rw [upd_at]; exact Nat.zero_le _
    · rw [upd_ne _ _ q]; exact h.len k hk
end
end Go.Proofs.YtmcknfpohnobdaaDoor
