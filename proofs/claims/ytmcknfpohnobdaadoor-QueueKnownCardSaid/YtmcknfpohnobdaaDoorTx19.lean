/- QueueScript: lists told; what ApartInts leaves; the last calls (printed by gen_tx19.py). -/
import Derived.Test.YtmcknfpohnobdaaDoorTw19
import Derived.Test.YtmcknfpohnobdaaDoorStp19
namespace Go.Proofs.YtmcknfpohnobdaaDoor
set_option linter.unusedSimpArgs false
set_option linter.unusedVariables false
open Go.RowKit Go.MapKept Go.ChangeMaps Go.Maps

section
variable {w0 w w' : World} {n gx gr : Nat} {a : Nat → QV} {d : Nat → RV} {ov wv : Value} {P Q : List IL} {T : Nat → Prop}
/-- A list handed out by the queue, told in out. -/
theorem Scr.pushPs {w1 w2 : World} {o : Obj} {ov' : Value} {m : Nat} (h : Scr w0 w n gx gr a d ov wv P Q) (X : List IL) (hb : Below w.heap.size w w1) (hx : ∀ x ∈ X, w1.ownsRow w.heap.size 3 1 x.v x.xs.length (intsC x.xs)) (hsx : ∃ f : Nat → Nat, ∀ j (hj : j < X.length) i, X[j].v.ownBlock = some i → f i = j)
    (hO : w2.ownsRow w0.heap.size 35 1 ov' (P.length + X.length) (P.flatMap IL.cs ++ X.flatMap IL.cs)) (hg : (w1.alloc o).grownBy w2 ov.ownBlock) (hat : ov'.ownBlock = ov.ownBlock ∨ ov'.ownBlock = some (w1.alloc o).heap.size)
    (hm : n ≤ m) (hpm : P.length + X.length ≤ m) (hxm : ∀ x ∈ X, x.xs.length ≤ m) : Scr w0 w2 m gx gr a d ov' wv (P ++ X) Q := by
  have hT : But w w2 (fun i => ov.ownBlock = some i) := ((But.of_below hb _).alloc o).grown hg (fun i _ e => e)
  have h1 := h.rowO
  have hsz : w.heap.size ≤ w1.heap.size := hb.size
  have hs2 : w1.heap.size + 1 ≤ w2.heap.size := by have := hg.size; simpa using this
  have hxb : ∀ x ∈ X, ∀ i, x.v.ownBlock = some i → w.heap.size ≤ i ∧ i < w2.heap.size := fun x hxx i hi => ⟨own_base (hx x hxx) hi, by have := own_lt (hx x hxx) hi; omega⟩
  have hold : ∀ y : IL, ∀ n, w.ownsRow w0.heap.size 3 1 y.v n (intsC y.xs) → w2.ownsRow w0.heap.size 3 1 y.v n (intsC y.xs) := fun y n hy => own_but hy hT (fun i hi e => own_own_ne hy h1 (by decide) hi e)
  have hov : ∀ i, ov'.ownBlock = some i → ov.ownBlock = some i ∨ (w.heap.size ≤ i ∧ i < w2.heap.size) := fun i hi => by
    have hlt := own_lt hO hi
    rcases hat with q | q
    · exact .inl (q ▸ hi)
    · rw [q] at hi; cases hi
      exact .inr ⟨by simp; omega, hlt⟩
  refine ⟨h.bx.but hT (own_blk_ne h1 h.bx (by decide)), h.br.but hT (own_blk_ne h1 h.br (by decide)), fun j hj => (h.pm j hj).grow (hT.weak (fun i _ e => .inr (.inr (.inl e)))) (fun i hi => ?_), h.sm, h.far, fun j hj => Nat.le_trans (h.len j hj) hm, ?_, own_but h.rowW hT (fun i hi e => h.ow i e hi), fun i hi hw => ?_, by simpa using hpm, Nat.le_trans h.ql hm, fun y hy => ?_, fun y hy => hold y _ (h.inQ y hy), fun y hy => ?_, ?_⟩
  · rcases hi with q | q | q | q | ⟨y, hy, q⟩ | q
    · exact .inl (.inl q)
    · exact .inl (.inr (.inl q))
    · exact (hov i q).imp (fun q => .inr (.inr (.inl q))) id
    · exact .inl (.inr (.inr (.inr (.inl q))))
    · rcases List.mem_append.1 hy with hy | hy
      · exact .inl (.inr (.inr (.inr (.inr (.inl ⟨y, hy, q⟩)))))
      · exact .inr (hxb y hy i q)
    · exact .inl (.inr (.inr (.inr (.inr (.inr q)))))
  · rw [List.length_append, List.flatMap_append]
    simpa using hO
  · rcases hov i hi with q | q
    · exact h.ow i q hw
    · have := own_lt h.rowW hw; omega
  · rcases List.mem_append.1 hy with hy | hy
    · exact hold y _ (h.inP y hy)
    · have ho1 := own_but h1 (But.of_below hb (fun _ => False)) (fun _ _ h => h)
      have hT1 : But w1 w2 (fun i => ov.ownBlock = some i) := ((But.refl w1 _).alloc o).grown hg (fun i _ e => e)
      exact row_weak (own_but (hx y hy) hT1 (fun i hi e => own_own_ne (hx y hy) ho1 (by decide) hi e)) h.bel.size
  · rcases List.mem_append.1 hy with hy | hy
    · exact Nat.le_trans (h.lens y hy) hm
    · exact hxm y hy
  · obtain ⟨f, hf⟩ := h.sep
    obtain ⟨f2, hf2⟩ := hsx
    refine ⟨fun i => if w.heap.size ≤ i then P.length + f2 i else f i, fun j hj i hi => ?_⟩
    by_cases q : j < P.length
    · rw [List.getElem_append_left q] at hi
      have hlt := own_lt (h.inP _ (List.getElem_mem q)) hi
      simp only
      rw [if_neg (by omega)]
      exact hf j q i hi
    · rw [List.getElem_append_right (by omega)] at hi
      have hjx : j - P.length < X.length := by rw [List.length_append] at hj; omega
      simp only
      rw [if_pos (hxb _ (List.getElem_mem hjx) i hi).1, hf2 _ hjx i hi]
      omega
/-- A list of the document's, told in want. -/
theorem Scr.pushQs {w1 w2 : World} {o : Obj} {wv' : Value} {m : Nat} (h : Scr w0 w n gx gr a d ov wv P Q) (X : List IL) (hb : Below w.heap.size w w1) (hx : ∀ x ∈ X, w1.ownsRow w.heap.size 3 1 x.v x.xs.length (intsC x.xs))
    (hO : w2.ownsRow w0.heap.size 35 1 wv' (Q.length + X.length) (Q.flatMap IL.cs ++ X.flatMap IL.cs)) (hg : (w1.alloc o).grownBy w2 wv.ownBlock) (hat : wv'.ownBlock = wv.ownBlock ∨ wv'.ownBlock = some (w1.alloc o).heap.size)
    (hm : n ≤ m) (hpm : Q.length + X.length ≤ m) : Scr w0 w2 m gx gr a d ov wv' P (Q ++ X) := by
  have hT : But w w2 (fun i => wv.ownBlock = some i) := ((But.of_below hb _).alloc o).grown hg (fun i _ e => e)
  have h1 := h.rowW
  have hsz : w.heap.size ≤ w1.heap.size := hb.size
  have hs2 : w1.heap.size + 1 ≤ w2.heap.size := by have := hg.size; simpa using this
  have hxb : ∀ x ∈ X, ∀ i, x.v.ownBlock = some i → w.heap.size ≤ i ∧ i < w2.heap.size := fun x hxx i hi => ⟨own_base (hx x hxx) hi, by have := own_lt (hx x hxx) hi; omega⟩
  have hold : ∀ y : IL, ∀ n, w.ownsRow w0.heap.size 3 1 y.v n (intsC y.xs) → w2.ownsRow w0.heap.size 3 1 y.v n (intsC y.xs) := fun y n hy => own_but hy hT (fun i hi e => own_own_ne hy h1 (by decide) hi e)
  have hov : ∀ i, wv'.ownBlock = some i → wv.ownBlock = some i ∨ (w.heap.size ≤ i ∧ i < w2.heap.size) := fun i hi => by
    have hlt := own_lt hO hi
    rcases hat with q | q
    · exact .inl (q ▸ hi)
    · rw [q] at hi; cases hi
      exact .inr ⟨by simp; omega, hlt⟩
  refine ⟨h.bx.but hT (own_blk_ne h1 h.bx (by decide)), h.br.but hT (own_blk_ne h1 h.br (by decide)), fun j hj => (h.pm j hj).grow (hT.weak (fun i _ e => .inr (.inr (.inr (.inl e))))) (fun i hi => ?_), h.sm, h.far, fun j hj => Nat.le_trans (h.len j hj) hm, own_but h.rowO hT (fun i hi e => h.ow i hi e), ?_, fun i hi hw => ?_, Nat.le_trans h.pl hm, by simpa using hpm, fun y hy => hold y _ (h.inP y hy), fun y hy => ?_, fun y hy => Nat.le_trans (h.lens y hy) hm, h.sep⟩
  · rcases hi with q | q | q | q | q | ⟨y, hy, q⟩
    · exact .inl (.inl q)
    · exact .inl (.inr (.inl q))
    · exact .inl (.inr (.inr (.inl q)))
    · exact (hov i q).imp (fun q => .inr (.inr (.inr (.inl q)))) id
    · exact .inl (.inr (.inr (.inr (.inr (.inl q)))))
    · rcases List.mem_append.1 hy with hy | hy
      · exact .inl (.inr (.inr (.inr (.inr (.inr ⟨y, hy, q⟩)))))
      · exact .inr (hxb y hy i q)
  · rw [List.length_append, List.flatMap_append]
    simpa using hO
  · rcases hov i hw with q | q
    · exact h.ow i hi q
    · have := own_lt h.rowO hi; omega
  · rcases List.mem_append.1 hy with hy | hy
    · exact hold y _ (h.inQ y hy)
    · have ho1 := own_but h1 (But.of_below hb (fun _ => False)) (fun _ _ h => h)
      have hT1 : But w1 w2 (fun i => wv.ownBlock = some i) := ((But.refl w1 _).alloc o).grown hg (fun i _ e => e)
      exact row_weak (own_but (hx y hy) hT1 (fun i hi e => own_own_ne (hx y hy) ho1 (by decide) hi e)) h.bel.size

/-- Two rows of which one was made ahead of the other lie apart. -/
theorem sep_two {x y : IL} {B : Nat} (h1 : ∀ i, x.v.ownBlock = some i → i < B) (h2 : ∀ i, y.v.ownBlock = some i → B ≤ i) : ∃ f : Nat → Nat, ∀ j (hj : j < [x, y].length) i, [x, y][j].v.ownBlock = some i → f i = j := by
  refine ⟨fun i => if i < B then 0 else 1, fun j hj i hi => ?_⟩
  obtain rfl | rfl : j = 0 ∨ j = 1 := by simp at hj; omega
  · simp only
    rw [if_pos (h1 i hi)]
  · have := h2 i hi
    simp only
    rw [if_neg (by omega)]
theorem sep_one (x : IL) : ∃ f : Nat → Nat, ∀ j (hj : j < [x].length) i, [x][j].v.ownBlock = some i → f i = j := by
  refine ⟨fun _ => 0, fun j hj i _ => ?_⟩
  have h0 : j = 0 := by simpa using hj
  exact h0.symm
theorem two_rows {B : Nat} {x y : IL} (h1 : w.ownsRow B 3 1 x.v x.xs.length (intsC x.xs)) (h2 : w.ownsRow B 3 1 y.v y.xs.length (intsC y.xs)) : ∀ z ∈ [x, y], w.ownsRow B 3 1 z.v z.xs.length (intsC z.xs) := by
  intro z hz
  rcases List.mem_cons.1 hz with rfl | hz
  · exact h1
  · rw [List.mem_singleton.1 hz]; exact h2
theorem two_lens {m : Nat} {x y : IL} (h1 : x.xs.length ≤ m) (h2 : y.xs.length ≤ m) : ∀ z ∈ [x, y], z.xs.length ≤ m := by
  intro z hz
  rcases List.mem_cons.1 hz with rfl | hz
  · exact h1
  · rw [List.mem_singleton.1 hz]; exact h2
theorem sameI_below (l : List Int) (A B : Option Addr) (c e : Nat) (w : World) {b1 b2 : Nat} (ha : w.ownsRow b1 3 1 (.slice A l.length c) l.length (intsC l)) (hb : w.ownsRow b2 3 1 (.slice B l.length e) l.length (intsC l)) (hlen : l.length ≤ 4611686018427387904) :
    Calls Tryd.prog 15 #[.slice A l.length c, .slice B l.length e] w fun e w' => e = .returned (.bool true) ∧ Below w.heap.size w w' := by
  refine (sameInts_draws l A B c e w (Reads.of_own ha) (Reads.of_own hb) hlen).mono ?_
  rintro e w' ⟨rfl, m, rfl⟩
  exact ⟨rfl, below_drewN (Below.refl _ _) _⟩
theorem own_keepT {base e s n : Nat} {v : Value} {xs : List Value} (h : w.ownsRow base e s v n xs) (hk : KeepT 3 w w') (hne : e ≠ 3) : w'.ownsRow base e s v n xs := by
  refine ⟨h.1, ?_⟩
  rcases h.2 with h0 | ⟨g, cap, cur, rfl, h1, h2, h3⟩
  · exact .inl h0
  · exact .inr ⟨g, cap, cur, rfl, h1, hk.out g e cur hne h2, h3⟩
theorem MapT.keepT {K V : Type} {ek : K → Value} {ev : V → Value} {g : Nat} {M : List (K × V)} (h : MapT ek ev w g M) (hk : KeepT 3 w w') : MapT ek ev w' g M := by
  obtain ⟨es, clk, h1, h2⟩ := h
  exact ⟨es, clk, hk.map g es clk h1, h2⟩
theorem QAt.keepT {p bi bw : Nat} {room turns : Int} {lv : Value} {L : List Ent} {W : List (Key × Nat)} (h : QAt w p room turns lv bi bw L W) (hk : KeepT 3 w w') : QAt w' p room turns lv bi bw L W :=
  ⟨hk.out _ _ _ (by decide) h.blk, own_keepT h.row hk (by decide), fun e he => hk.out _ _ _ (by decide) (h.ents e he), fun e he => own_keepT (h.keysR e he) hk (by decide), h.ids.keepT hk,
    ⟨h.wts.top.keepT hk, fun k m hm => (h.wts.inn k m hm).keepT hk, h.wts.has, h.wts.nk, h.wts.nv, h.wts.out⟩, h.bne, h.biW, h.idn, h.bn, h.wf⟩
theorem RAt.keepT {p : Nat} {room : Int} {v : Value} {L : List RE} (h : RAt w p room v L) (hk : KeepT 3 w w') : RAt w' p room v L :=
  ⟨hk.out _ _ _ (by decide) h.blk, own_keepT h.row hk (by decide), fun e he => own_keepT (h.keysR e he) hk (by decide)⟩
/-- Behind ApartInts: the queues and their arrays as they were. -/
theorem Scr.apart (h : Scr w0 w n gx gr a d ov wv P Q) (hb : Below w0.heap.size w0 w') (hk : KeepT 3 w w') (hsz : w.heap.size ≤ w'.heap.size) : Scr w0 w' n gx gr a d (.slice none 0 0) (.slice none 0 0) [] [] := by
  have hso : ∀ i, Sown gx gr (.slice none 0 0) (.slice none 0 0) [] [] i → Sown gx gr ov wv P Q i := by
    rintro i (h | h | h | h | ⟨x, hx, _⟩ | ⟨x, hx, _⟩)
    · exact .inl h
    · exact .inr (.inl h)
    · cases h
    · cases h
    · cases hx
    · cases hx
  exact ⟨hk.out _ _ _ (by decide) h.bx, hk.out _ _ _ (by decide) h.br, fun j hj => ⟨(h.pm j hj).qa.keepT hk, (h.pm j hj).ra.keepT hk, (h.pm j hj).dis, (h.pm j hj).la, (h.pm j hj).ld, fun i hi => ⟨Nat.lt_of_lt_of_le ((h.pm j hj).own i (hso i hi)).1 hsz, ((h.pm j hj).own i (hso i hi)).2⟩, fun i hi => (h.pm j hj).ls i (hso i hi), hb⟩, h.sm, h.far, h.len,
    World.ownsRow_nil _ _ _ _, World.ownsRow_nil _ _ _ _, (fun i hi => by cases hi), Nat.zero_le _, Nat.zero_le _, (fun x hx => by cases hx), (fun x hx => by cases hx), (fun x hx => by cases hx), ⟨fun _ => 0, fun j hj => by simp at hj⟩⟩
theorem fil0_of_own {B k m : Nat} {ow : Nat → Nat} {v : Value} {xs : List Value} (h : w.ownsRow B 3 1 v m xs) (how : ∀ b, v.ownBlock = some b → ow b = k) : Fil intsMark 3 ow B w v k m 0 := by
  rcases h.2 with ⟨h0, h1⟩ | ⟨g, cap, cur, rfl, h1, h2, h3, h4, h5, h6⟩
  · exact .inl ⟨h0, h1⟩
  · exact .inr ⟨g, cap, cur, rfl, h1, how g rfl, h2, by omega, by omega, by omega, Nat.zero_le _, fun i hi => by omega⟩
/-- The lists of out, as ApartInts takes them. -/
theorem Scr.parts {gL c : Nat} (h : Scr w0 w n gx gr a d (.slice (some ⟨gL, 0, none⟩) P.length c) wv P Q) (hn : n ≤ 2932031007400) :
    Calls Tryd.prog 14 #[.slice (some ⟨gL, 0, none⟩) P.length c] w fun e w' => e = .returned (.bool true) ∧ Below w0.heap.size w0 w' ∧ Scr w0 w' n gx gr a d (.slice none 0 0) (.slice none 0 0) [] [] := by
  obtain ⟨ow, how⟩ := h.sep
  have hrow := h.rowO
  rcases hrow.2 with ⟨h0, _⟩ | ⟨g, cap, cur, hv, h1, h2, h3, h4, h5, h6⟩
  · cases h0
  · injection hv with hv _ _
    injection hv with hv
    injection hv with hv
    subst hv
    have hcur : ∀ k, k < P.length → cur[k]? = some ((P[k]?.map IL.v).getD (.slice none 0 0)) := by
      intro k hk
      have hc := row_cell IL.len (c := c) hrow hk (r := 0) (v := P[k].v) rfl
      rw [(show Blk w gL 35 cur from h2).cell] at hc
      rw [List.getElem?_eq_getElem hk]
      simpa using hc
    have hpl := h.pl
    refine (apartInts_calls P.length gL c (fun k => (P[k]?.map IL.v).getD (.slice none 0 0)) (fun k => (P[k]?.map (fun x => x.xs.length)).getD 0) ow w0.heap.size cur w h2 hcur (fun j hj => ?_) (by omega) (fun j hj => ?_) h.bel.size).mono ?_
    · simp only [List.getElem?_eq_getElem hj, Option.map_some, Option.getD_some]
      exact fil0_of_own (h.inP _ (List.getElem_mem hj)) (fun b hb => how j hj b hb)
    · have := h.lens _ (List.getElem_mem hj)
      simp only [List.getElem?_eq_getElem hj, Option.map_some, Option.getD_some]
      omega
    · rintro e w' ⟨rfl, hb, hk⟩
      have hbb := h.bel.trans hb
      exact ⟨rfl, hbb, h.apart hbb hk (by have := hb.size; omega)⟩
theorem Scr.same (h : Scr w0 w n gx gr a d ov wv P Q) {A C : Option Addr} {c c' : Nat} (hov : ov = .slice A P.length c) (hwv : wv = .slice C Q.length c') (hn : n ≤ 2932031007400) (hpq : P.map IL.xs = Q.map IL.xs) :
    Calls Tryd.prog 13 #[.slice A P.length c, .slice C Q.length c'] w fun e w' => e = .returned (.bool true) ∧ Below w.heap.size w w' := by
  subst hov hwv
  have hpl := h.pl
  refine (sameLists_draws P Q A C c c' w (Reads.of_own h.rowO) (Reads.of_own h.rowW) hpq (fun x hx => Reads.of_own (h.inP x hx)) (fun x hx => Reads.of_own (h.inQ x hx)) (fun x hx => by have := h.lens x hx; omega) (by omega)).mono ?_
  rintro e w' ⟨rfl, m, rfl⟩
  exact ⟨rfl, below_drewN (Below.refl _ _) _⟩
theorem Scr.lenC (h : Scr w0 w n gx gr a d ov wv P Q) {j : Nat} (hj : j < 2) : Calls Tryd.prog 16 #[.pointer (some ⟨(a j).p, 0, none⟩)] w fun e w' => e = .returned (.int .i64 (d j).M.length) ∧ w' = w := by
  rw [← (h.sm j hj).rel.1]
  exact len_calls w (h.pm j hj).qa
theorem Scr.fullC (h : Scr w0 w n gx gr a d ov wv P Q) {j : Nat} (hj : j < 2) : Calls Tryd.prog 17 #[.pointer (some ⟨(a j).p, 0, none⟩)] w fun e w' => e = .returned (.bool (decide ((d j).room ≤ (d j).M.length))) ∧ Below w.heap.size w w' := by
  rw [← (h.sm j hj).rel.1, ← (h.sm j hj).room]
  refine (full_draws w (h.pm j hj).qa).mono ?_
  rintro e w' ⟨rfl, m, rfl⟩
  exact ⟨rfl, below_drewN (Below.refl _ _) _⟩
theorem Scr.fullRC (h : Scr w0 w n gx gr a d ov wv P Q) {j : Nat} (hj : j < 2) : Calls Tryd.prog 18 #[.pointer (some ⟨(d j).q, 0, none⟩)] w fun e w' => e = .returned (.bool (decide ((d j).room ≤ (d j).M.length))) ∧ Below w.heap.size w w' := by
  refine (fullR_calls w (h.pm j hj).ra).mono ?_
  rintro e w' ⟨rfl, m, rfl⟩
  exact ⟨rfl, below_drewN (Below.refl _ _) _⟩
theorem Scr.len0 (h : Scr w0 w n gx gr a d ov wv P Q) {A : Option Addr} {c : Nat} (hv : (d 0).v = .slice A (d 0).M.length c) : w.cell? ⟨(d 0).q, 1, none⟩ = some (.slice A (d 0).M.length c) := by
  have := (show RAt w (d 0).q (d 0).room (d 0).v (d 0).M from (h.pm 0 (by decide)).ra).blk.cell 1
  rw [this, hv]
  rfl
theorem Scr.vSlice (h : Scr w0 w n gx gr a d ov wv P Q) : ∃ A c, (d 0).v = .slice A (d 0).M.length c := row_slice (show RAt w (d 0).q (d 0).room (d 0).v (d 0).M from (h.pm 0 (by decide)).ra).row
theorem Scr.stepH (h : Scr w0 w n gx gr a d ov wv P Q) {j : Nat} (hj : j < 2) (hn : n ≤ 2932031007316) (hG : HG w0) {id : Int} {ks : List Key} {A : Option Addr} {c : Nat} (hk : KeysIn w0 w0.heap.size A c ks ∧ wfI id) : StepH w0 w (a j) (d j) id ks A c n :=
  ⟨(h.pm j hj).grow (S' := fun _ => False) (But.refl _ _) (fun i hi => hi.elim), h.sm j hj, h.len j hj, by omega, hG, hk.2, hk.1⟩
end
theorem stepAll_calls {w0 w : World} {a : QV} {d : RV} {ks : List Key} {A : Option Addr} {c n : Nat} {id : Int} (q : Nat) (hq : q ≤ 5) (on kd : Int) (h : StepH w0 w a d id ks A c n) :
    Calls Tryd.prog 12 #[.pointer (some ⟨a.p, 0, none⟩), .pointer (some ⟨d.q, 0, none⟩), .agg #[.int .i64 on, .int .i64 kd, .int .i64 id, .slice A ks.length c], .int .i64 q] w (StepP w0 w a d) := by
  match q, hq with
  | 0, _ => exact step0_calls on kd h
  | 1, _ => exact step1_calls on kd h
  | 2, _ => exact step2_calls on kd h
  | 3, _ => exact step3_calls on kd h
  | 4, _ => exact step4_calls on kd h
  | 5, _ => exact step5_calls on kd h
end Go.Proofs.YtmcknfpohnobdaaDoor
