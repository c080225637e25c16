/- StoreScript: what the script's loop keeps. -/
import Derived.Test.YtflkddllofeiaaaGreatDoorTell
import Derived.Test.YtflkddllofeiaaaGreatDoorS10
import Derived.Test.YtflkddllofeiaaaGreatDoorApartKeysT
import Derived.Test.YtflkddllofeiaaaGreatDoorSameK
namespace Go.Proofs.YtflkddllofeiaaaGreatDoor
set_option linter.unusedSimpArgs false
set_option linter.unusedVariables false
open Go.RowKit Go.MapKept Go.ChangeMaps Go.Maps

theorem below_after {a b c : World} (h : Below a.heap.size a b) (h' : Below b.heap.size b c) : Below a.heap.size a c := h.trans (h'.mono h.size)
/-- A list of keys as an element of a list. -/
structure KL where
  A : Option Addr
  ks : List Key
  c : Nat
def KL.v (x : KL) : Value := .slice x.A x.ks.length x.c
def KL.cs (x : KL) : List Value := [.slice x.A x.ks.length x.c]
theorem KL.len (x : KL) : x.cs.length = 1 := rfl
def upd {α : Type} (a : Nat → α) (j : Nat) (x : α) : Nat → α := fun k => if k = j then x else a k
theorem upd_at {α : Type} (a : Nat → α) (j : Nat) (x : α) : upd a j x j = x := if_pos rfl
theorem upd_ne {α : Type} (a : Nat → α) {j k : Nat} (x : α) (h : k ≠ j) : upd a j x k = a k := if_neg h
def Own11 (gx gr : Nat) (tv : Value) (P : List KL) (i : Nat) : Prop := i = gx ∨ i = gr ∨ tv.ownBlock = some i ∨ ∃ x ∈ P, x.v.ownBlock = some i
structure Sc11 (w0 w : World) (n gx gr : Nat) (a : Nat → StV) (d : Nat → RS) (A : Nat → AbS) (tv : Value) (P : List KL) : Prop where
  bx : Blk w gx 25 #[.pointer (some ⟨(a 0).p, 0, none⟩), .pointer (some ⟨(a 1).p, 0, none⟩)]
  br : Blk w gr 28 #[.pointer (some ⟨(d 0).p, 0, none⟩), .pointer (some ⟨(d 1).p, 0, none⟩)]
  sa : ∀ j, j < 2 → StAt w (a j)
  ra : ∀ j, j < 2 → RSAt w (d j)
  sim : ∀ j, j < 2 → Sim (a j) (A j)
  rsim : ∀ j, j < 2 → RSim (d j) (A j)
  bnd : ∀ j, j < 2 → BndA (A j) n
  sh : ∀ j, j < 2 → (d j).sh = (a j).n
  ow : ∃ f : Nat → Nat, (∀ j, j < 2 → ∀ i, (a j).of i → f i = 2 * j) ∧ (∀ j, j < 2 → ∀ i, (d j).of i → f i = 2 * j + 1) ∧ ∀ i, Own11 gx gr tv P i → f i = 4
  la : ∀ j, j < 2 → ∀ i, (a j).of i → w0.heap.size ≤ i
  ld : ∀ j, j < 2 → ∀ i, (d j).of i → w0.heap.size ≤ i
  lo : ∀ i, Own11 gx gr tv P i → w0.heap.size ≤ i
  bel : Below w0.heap.size w0 w
  row : w.ownsRow w0.heap.size 40 1 tv P.length (P.flatMap KL.cs)
  inP : ∀ x ∈ P, w.ownsRow w0.heap.size 33 2 x.v x.ks.length (keysC x.ks)
  lens : ∀ x ∈ P, x.ks.length ≤ n
  pl : P.length ≤ 2 * n
  sep : ∃ o : Nat → Nat, ∀ j (hj : j < P.length) i, P[j].v.ownBlock = some i → o i = j
section
variable {w0 w w' : World} {n gx gr : Nat} {a : Nat → StV} {d : Nat → RS} {A : Nat → AbS} {tv : Value} {P : List KL}
theorem Sc11.own_lt (h : Sc11 w0 w n gx gr a d A tv P) {i : Nat} (hi : Own11 gx gr tv P i) : i < w.heap.size := by
  rcases hi with rfl | rfl | hi | ⟨x, hx, hi⟩
  · exact h.bx.lt
  · exact h.br.lt
  · exact Go.Proofs.YtflkddllofeiaaaGreatDoor.own_lt h.row hi
  · exact Go.Proofs.YtflkddllofeiaaaGreatDoor.own_lt (h.inP x hx) hi
/-- The law's own under what leaves it alone. -/
theorem Sc11.keep (h : Sc11 w0 w n gx gr a d A tv P) {T : Nat → Prop} (hb : But w w' T) (hT : ∀ i, Own11 gx gr tv P i → ¬ T i) :
    Blk w' gx 25 #[.pointer (some ⟨(a 0).p, 0, none⟩), .pointer (some ⟨(a 1).p, 0, none⟩)] ∧ Blk w' gr 28 #[.pointer (some ⟨(d 0).p, 0, none⟩), .pointer (some ⟨(d 1).p, 0, none⟩)] ∧
      w'.ownsRow w0.heap.size 40 1 tv P.length (P.flatMap KL.cs) ∧ ∀ x ∈ P, w'.ownsRow w0.heap.size 33 2 x.v x.ks.length (keysC x.ks) :=
  ⟨h.bx.but hb (hT _ (.inl rfl)), h.br.but hb (hT _ (.inr (.inl rfl))), own_but h.row hb (fun i hi => hT i (.inr (.inr (.inl hi)))), fun x hx => own_but (h.inP x hx) hb (fun i hi => hT i (.inr (.inr (.inr ⟨x, hx, hi⟩))))⟩
theorem Sc11.below (h : Sc11 w0 w n gx gr a d A tv P) (hb : Below w.heap.size w w') : Sc11 w0 w' n gx gr a d A tv P := by
  obtain ⟨h1, h2, h3, h4⟩ := h.keep (But.of_below hb (fun _ => False)) (fun _ _ t => t)
  exact { h with bx := h1, br := h2, sa := fun j hj => (h.sa j hj).below hb, ra := fun j hj => (h.ra j hj).below hb, bel := below_after h.bel hb, row := h3, inP := h4 }
theorem Sc11.up (h : Sc11 w0 w n gx gr a d A tv P) {m : Nat} (hm : n ≤ m) : Sc11 w0 w m gx gr a d A tv P :=
  { h with bnd := fun j hj => ⟨Nat.le_trans (h.bnd j hj).t hm, Nat.le_trans (h.bnd j hj).r hm, Nat.le_trans (h.bnd j hj).b hm, (h.bnd j hj).nd⟩, lens := fun x hx => Nat.le_trans (h.lens x hx) hm, pl := Nat.le_trans h.pl (by omega) }
/-- A call of both stores at j. -/
theorem Sc11.step {w1 : World} {s' : StV} {r' : RS} {c : CallV} (h : Sc11 w0 w n gx gr a d A tv P) {j : Nat} (hj : j < 2) (hs : AskS w w1 (a j) s' (stepA (A j) c)) (hr : TellS w1 w' (d j) r' (stepA (A j) c)) :
    Sc11 w0 w' (n + 1) gx gr (upd a j s') (upd d j r') (upd A j (stepA (A j) c)) tv P := by
  obtain ⟨f, f1, f2, f3⟩ := h.ow
  have hbt : But w w' (fun i => (a j).of i ∨ (d j).of i) := (hs.but.weak (fun _ _ h => .inl h)).trans hr.but (fun _ _ h => .inr h)
  have hno : ∀ i, Own11 gx gr tv P i → ¬ ((a j).of i ∨ (d j).of i) := fun i hi t => by
    have e1 := f3 i hi
    rcases t with t | t
    · have e2 := f1 j hj i t; omega
    · have e2 := f2 j hj i t; omega
  obtain ⟨h1, h2, h3, h4⟩ := h.keep hbt hno
  have hpa : ∀ k, (upd a j s' k).p = (a k).p := fun k => by
    unfold upd; split
    · rename_i q; subst q; exact hs.ep
    · rfl
  have hpd : ∀ k, (upd d j r' k).p = (d k).p := fun k => by
    unfold upd; split
    · rename_i q; subst q; exact hr.p
    · rfl
  have hs1 := hs.but.size
  have hna : ∀ i, s'.of i → (a j).of i ∨ w.heap.size ≤ i := hs.new
  have hnd : ∀ i, r'.of i → (d j).of i ∨ w.heap.size ≤ i := fun i hi => (hr.new i hi).imp (fun h => h) (fun h => Nat.le_trans hs1 h)
  have hslt : ∀ i, s'.of i → i < w1.heap.size := fun i hi => hs.at_.lt hi
  refine ⟨by rw [hpa, hpa]; exact h1, by rw [hpd, hpd]; exact h2, fun k hk => ?_, fun k hk => ?_, fun k hk => ?_, fun k hk => ?_, fun k hk => ?_, fun k hk => ?_, ?_, fun k hk i hi => ?_, fun k hk i hi => ?_, h.lo, h.bel.trans (hbt.to_below (fun i t => t.elim (h.la j hj i) (h.ld j hj i)) h.bel.size), h3, h4, fun x hx => Nat.le_succ_of_le (h.lens x hx), Nat.le_trans h.pl (by omega), h.sep⟩
  · by_cases q : k = j
    · subst q; rw [upd_at]
      refine hs.at_.but hr.but (fun i hi t => ?_)
      have e2 := f2 k hj i t
      rcases hna i hi with z | z
      · have e1 := f1 k hj i z; omega
      · have := (h.ra k hj).lt t; omega
    · rw [upd_ne _ _ q]
      refine (h.sa k hk).but hbt (fun i hi t => ?_)
      have e1 := f1 k hk i hi
      rcases t with t | t
      · have e2 := f1 j hj i t; omega
      · have e2 := f2 j hj i t; omega
  · by_cases q : k = j
    · subst q; rw [upd_at]; exact hr.at_
    · rw [upd_ne _ _ q]
      refine (h.ra k hk).but hbt (fun i hi t => ?_)
      have e1 := f2 k hk i hi
      rcases t with t | t
      · have e2 := f1 j hj i t; omega
      · have e2 := f2 j hj i t; omega
  · by_cases q : k = j
    · subst q; rw [upd_at, upd_at]; exact hs.sim
    · rw [upd_ne _ _ q, upd_ne _ _ q]; exact h.sim k hk
  · by_cases q : k = j
    · subst q; rw [upd_at, upd_at]; exact hr.sim
    · rw [upd_ne _ _ q, upd_ne _ _ q]; exact h.rsim k hk
  · by_cases q : k = j
    · subst q; rw [upd_at]; exact (h.bnd k hk).step c
    · rw [upd_ne _ _ q]; have := h.bnd k hk; exact ⟨Nat.le_succ_of_le this.t, Nat.le_succ_of_le this.r, Nat.le_succ_of_le this.b, this.nd⟩
  · by_cases q : k = j
    · subst q; rw [upd_at, upd_at, hr.sh, hs.en]; exact h.sh k hk
    · rw [upd_ne _ _ q, upd_ne _ _ q]; exact h.sh k hk
  · refine ⟨fun i => if i < w.heap.size then f i else if i < w1.heap.size then 2 * j else 2 * j + 1, fun k hk i hi => ?_, fun k hk i hi => ?_, fun i hi => ?_⟩
    · by_cases q : k = j
      · subst q
        rw [upd_at] at hi
        have h9 := hslt i hi
        simp only
        rcases hna i hi with z | z
        · rw [if_pos ((h.sa k hk).lt z)]; exact f1 k hk i z
        · rw [if_neg (by omega), if_pos h9]
      · rw [upd_ne _ _ q] at hi
        simp only
        rw [if_pos ((h.sa k hk).lt hi)]
        exact f1 k hk i hi
    · by_cases q : k = j
      · subst q
        rw [upd_at] at hi
        simp only
        rcases hr.new i hi with z | z
        · rw [if_pos ((h.ra k hk).lt z)]; exact f2 k hk i z
        · rw [if_neg (by omega), if_neg (by omega)]
      · rw [upd_ne _ _ q] at hi
        simp only
        rw [if_pos ((h.ra k hk).lt hi)]
        exact f2 k hk i hi
    · simp only
      rw [if_pos (h.own_lt hi)]
      exact f3 i hi
  · by_cases q : k = j
    · subst q; rw [upd_at] at hi
      exact (hna i hi).elim (h.la k hk i) (fun z => Nat.le_trans h.bel.size z)
    · rw [upd_ne _ _ q] at hi; exact h.la k hk i hi
  · by_cases q : k = j
    · subst q; rw [upd_at] at hi
      exact (hnd i hi).elim (h.ld k hk i) (fun z => Nat.le_trans h.bel.size z)
    · rw [upd_ne _ _ q] at hi; exact h.ld k hk i hi
/-- Between the two calls. -/
theorem Sc11.mid (h : Sc11 w0 w n gx gr a d A tv P) {j : Nat} (hj : j < 2) (hb : But w w' (a j).of) : RSAt w' (d j) ∧ Blk w' gx 25 #[.pointer (some ⟨(a 0).p, 0, none⟩), .pointer (some ⟨(a 1).p, 0, none⟩)] ∧ Blk w' gr 28 #[.pointer (some ⟨(d 0).p, 0, none⟩), .pointer (some ⟨(d 1).p, 0, none⟩)] := by
  obtain ⟨f, f1, f2, f3⟩ := h.ow
  obtain ⟨h1, h2, _, _⟩ := h.keep hb (fun i hi t => by have e1 := f3 i hi; have e2 := f1 j hj i t; omega)
  exact ⟨(h.ra j hj).but hb (fun i hi t => by have e1 := f2 j hj i hi; have e2 := f1 j hj i t; omega), h1, h2⟩
/-- Lists told. -/
theorem Sc11.push {w1 w2 : World} {o : Obj} {tv' : Value} {m : Nat} (h : Sc11 w0 w n gx gr a d A tv P) (X : List KL) (hb : Below w.heap.size w w1) (hx : ∀ x ∈ X, w1.ownsRow w.heap.size 33 2 x.v x.ks.length (keysC x.ks))
    (hsx : ∃ f : Nat → Nat, ∀ j (hj : j < X.length) i, X[j].v.ownBlock = some i → f i = j) (hO : w2.ownsRow w0.heap.size 40 1 tv' (P.length + X.length) (P.flatMap KL.cs ++ X.flatMap KL.cs)) (hg : (w1.alloc o).grownBy w2 tv.ownBlock)
    (hat : tv'.ownBlock = tv.ownBlock ∨ tv'.ownBlock = some (w1.alloc o).heap.size) (hm : n ≤ m) (hpm : P.length + X.length ≤ 2 * m) (hxm : ∀ x ∈ X, x.ks.length ≤ m) : Sc11 w0 w2 m gx gr a d A tv' (P ++ X) := by
  obtain ⟨f, f1, f2, f3⟩ := h.ow
  have hT : But w w2 (fun i => tv.ownBlock = some i) := ((But.of_below hb _).alloc o).grown hg (fun i _ e => e)
  have h1 := h.row
  have hsz : w.heap.size ≤ w1.heap.size := hb.size
  have hs2 : w1.heap.size + 1 ≤ w2.heap.size := by have := hg.size; simpa using this
  have hxb : ∀ x ∈ X, ∀ i, x.v.ownBlock = some i → w.heap.size ≤ i ∧ i < w2.heap.size := fun x hxx i hi => ⟨own_base (hx x hxx) hi, by have := Go.Proofs.YtflkddllofeiaaaGreatDoor.own_lt (hx x hxx) hi; omega⟩
  have hov : ∀ i, tv'.ownBlock = some i → tv.ownBlock = some i ∨ (w.heap.size ≤ i ∧ i < w2.heap.size) := fun i hi => by
    have hlt := Go.Proofs.YtflkddllofeiaaaGreatDoor.own_lt hO hi
    rcases hat with q | q
    · exact .inl (q ▸ hi)
    · rw [q] at hi; cases hi
      exact .inr ⟨by simp; omega, hlt⟩
  have hown : ∀ i, Own11 gx gr tv' (P ++ X) i → Own11 gx gr tv P i ∨ w.heap.size ≤ i := fun i hi => by
    rcases hi with q | q | q | ⟨y, hy, q⟩
    · exact .inl (.inl q)
    · exact .inl (.inr (.inl q))
    · exact (hov i q).imp (fun q => .inr (.inr (.inl q))) (fun q => q.1)
    · rcases List.mem_append.1 hy with hy | hy
      · exact .inl (.inr (.inr (.inr ⟨y, hy, q⟩)))
      · exact .inr (hxb y hy i q).1
  have hnt : ∀ i, tv.ownBlock = some i → f i = 4 := fun i hi => f3 i (.inr (.inr (.inl hi)))
  have hup := h.up hm
  refine ⟨h.bx.but hT (own_blk_ne h1 h.bx (by decide)), h.br.but hT (own_blk_ne h1 h.br (by decide)), fun j hj => (h.sa j hj).but hT (fun i hi t => by have e1 := f1 j hj i hi; have e2 := hnt i t; omega), fun j hj => (h.ra j hj).but hT (fun i hi t => by have e1 := f2 j hj i hi; have e2 := hnt i t; omega),
    h.sim, h.rsim, hup.bnd, h.sh, ⟨fun i => if i < w.heap.size then f i else 4, fun j hj i hi => ?_, fun j hj i hi => ?_, fun i hi => ?_⟩, h.la, h.ld, fun i hi => ?_, h.bel.trans (hT.to_below (fun i hi => own_base h1 hi) h.bel.size), ?_, fun y hy => ?_, fun y hy => ?_, by simpa using hpm, ?_⟩
  · simp only; rw [if_pos ((h.sa j hj).lt hi)]; exact f1 j hj i hi
  · simp only; rw [if_pos ((h.ra j hj).lt hi)]; exact f2 j hj i hi
  · simp only
    rcases hown i hi with q | q
    · rw [if_pos (h.own_lt q)]; exact f3 i q
    · rw [if_neg (by omega)]
  · rcases hown i hi with q | q
    · exact h.lo i q
    · exact Nat.le_trans h.bel.size q
  · rw [List.length_append, List.flatMap_append]
    exact hO
  · rcases List.mem_append.1 hy with hy | hy
    · exact own_but (h.inP y hy) hT (fun i hi e => own_own_ne (h.inP y hy) h1 (by decide) hi e)
    · have ho1 := own_but h1 (But.of_below hb (fun _ => False)) (fun _ _ h => h)
      have hT1 : But w1 w2 (fun i => tv.ownBlock = some i) := ((But.refl w1 _).alloc o).grown hg (fun i _ e => e)
      exact row_weak (own_but (hx y hy) hT1 (fun i hi e => own_own_ne (hx y hy) ho1 (by decide) hi e)) h.bel.size
  · rcases List.mem_append.1 hy with hy | hy
    · exact Nat.le_trans (h.lens y hy) hm
    · exact hxm y hy
  · obtain ⟨o1, ho1⟩ := h.sep
    obtain ⟨o2, ho2⟩ := hsx
    refine ⟨fun i => if w.heap.size ≤ i then P.length + o2 i else o1 i, fun j hj i hi => ?_⟩
    by_cases q : j < P.length
    · rw [List.getElem_append_left q] at hi
      have hlt := Go.Proofs.YtflkddllofeiaaaGreatDoor.own_lt (h.inP _ (List.getElem_mem q)) hi
      simp only
      rw [if_neg (by omega)]
      exact ho1 j q i hi
    · rw [List.getElem_append_right (by omega)] at hi
      have hjx : j - P.length < X.length := by rw [List.length_append] at hj; omega
      simp only
      rw [if_pos (hxb _ (List.getElem_mem hjx) i hi).1, ho2 _ hjx i hi]
      omega
end
end Go.Proofs.YtflkddllofeiaaaGreatDoor

/- StoreScript: the start, the calls, what ApartKeys leaves. -/
namespace Go.Proofs.YtflkddllofeiaaaGreatDoor
open Go.RowKit Go.MapKept Go.ChangeMaps Go.Maps

theorem call_at {w : World} {B : Nat} {A : Option Addr} {cs : List CallV} (h : Reads w B 6 A cs.length (cs.flatMap CallV.cs)) {k : Nat} (hk : k < cs.length) :
    ∃ ad, A = some ad ∧ ad.block < B ∧ w.cell? (ad.add (k * 6)) = some (.int .i64 cs[k].on) ∧ w.cell? ⟨(ad.add (k * 6)).block, (ad.add (k * 6)).off + 1, none⟩ = some (.int .i64 cs[k].kind) ∧ w.cell? ⟨(ad.add (k * 6)).block, (ad.add (k * 6)).off + 2, none⟩ = some (.int .i64 cs[k].key.acc) ∧
      w.cell? ⟨(ad.add (k * 6)).block, (ad.add (k * 6)).off + 3, none⟩ = some (.int .i64 cs[k].key.ast) ∧ w.cell? ⟨(ad.add (k * 6)).block, (ad.add (k * 6)).off + 4, none⟩ = some (.int .i64 cs[k].n) ∧ w.cell? ⟨(ad.add (k * 6)).block, (ad.add (k * 6)).off + 5, none⟩ = some (.string cs[k].v) := by
  obtain ⟨ad, e, hb, h0, h1⟩ := Reads.elem CallV.len h hk
  exact ⟨ad, e, hb, h0 _ rfl, h1 1 _ (by omega) rfl, h1 2 _ (by omega) rfl, h1 3 _ (by omega) rfl, h1 4 _ (by omega) rfl, h1 5 _ (by omega) rfl⟩
set_option maxRecDepth 100000 in
set_option maxHeartbeats 1000000 in
theorem pick_calls (x n : Int) (w : World) (hn : 1 ≤ n) (hn2 : n ≤ 1000) : Calls Tryz.prog 9 #[.int .i64 x, .int .i64 n] w fun e w' => ∃ r : Nat, e = .returned (.int .i64 r) ∧ (r : Int) < n ∧ w' = w := by
  have h1 : x.tmod n < n := Int.tmod_lt_of_pos x (by omega)
  have h2 : -n < x.tmod n := Int.lt_tmod_of_pos x (by omega)
  go_enter Tryz.func9, Tryz.ntmps9
  rcases Int.lt_or_le (x.tmod n) 0 with h3 | h3
  · have h4 : wrap64 (x.tmod n + n) = x.tmod n + n := (by unfold wrap64; omega)
    go_wp2
    go_ret
    exact ⟨(x.tmod n + n).toNat, by rw [Int.toNat_of_nonneg (by omega)]; first | rfl | simp [h4], by omega, rfl⟩
  · go_wp2
    go_ret
    exact ⟨(x.tmod n).toNat, by rw [Int.toNat_of_nonneg h3]; rfl, by omega, rfl⟩
def duo {α : Type} (x y : α) : Nat → α := fun j => if j = 0 then x else y
theorem ofR0 {r : RS} (h1 : r.rv = .slice none 0 0) (h2 : r.dv = .slice none 0 0) (h3 : r.rows = []) {i : Nat} (h : r.of i) : i = r.p := by
  rcases h with q | q | q | ⟨x, hx, _⟩
  · exact q
  · rw [h1] at q; cases q
  · rw [h2] at q; cases q
  · rw [h3] at hx; cases hx
theorem sc_start {w0 w1 w2 w4 w5 : World} {s0 s1 : StV} {q0 q1 : Nat} {na nb : Nat} (hb1 : Below w0.heap.size w0 w1) (hs0 : StAt w1 s0) (ho0 : ∀ i, s0.of i → w0.heap.size ≤ i) (hn0 : s0.n = na) (hc0 : s0.chs = []) (hR0 : s0.R = []) (hg0 : s0.bg = 0)
    (hb2 : Below w1.heap.size w1 w2) (hs1 : StAt w2 s1) (ho1 : ∀ i, s1.of i → w1.heap.size ≤ i) (hn1 : s1.n = nb) (hc1 : s1.chs = []) (hR1 : s1.R = []) (hg1 : s1.bg = 0) {cx : Array Value} (hcx : cx = #[.pointer (some ⟨s0.p, 0, none⟩), .pointer (some ⟨s1.p, 0, none⟩)])
    (hb4 : Below (w2.alloc (.cells cx 25)).heap.size (w2.alloc (.cells cx 25)) w4) (hr0 : RSAt w4 ⟨q0, na, .slice none 0 0, [], .slice none 0 0, []⟩) (hq0 : (w2.alloc (.cells cx 25)).heap.size ≤ q0)
    (hb5 : Below w4.heap.size w4 w5) (hr1 : RSAt w5 ⟨q1, nb, .slice none 0 0, [], .slice none 0 0, []⟩) (hq1 : w4.heap.size ≤ q1) {cr : Array Value} (hcr : cr = #[.pointer (some ⟨q0, 0, none⟩), .pointer (some ⟨q1, 0, none⟩)]) :
    Sc11 w0 (w5.alloc (.cells cr 28)) 0 w2.heap.size w5.heap.size (duo s0 s1) (duo ⟨q0, na, .slice none 0 0, [], .slice none 0 0, []⟩ ⟨q1, nb, .slice none 0 0, [], .slice none 0 0, []⟩) (fun _ => ⟨[], [], 0⟩) (.slice none 0 0) [] := by
  subst hcx hcr
  obtain ⟨W3, hW3⟩ : ∃ X, w2.alloc (.cells #[.pointer (some ⟨s0.p, 0, none⟩), .pointer (some ⟨s1.p, 0, none⟩)] 25) = X := ⟨_, rfl⟩
  have hk3 : Blk W3 w2.heap.size 25 #[.pointer (some ⟨s0.p, 0, none⟩), .pointer (some ⟨s1.p, 0, none⟩)] := hW3 ▸ Blk.new _ _ _
  have hb3 : Below w2.heap.size w2 W3 := hW3 ▸ (Below.refl _ _).alloc (Nat.le_refl _) _
  have z3 : W3.heap.size = w2.heap.size + 1 := by rw [← hW3]; simp
  rw [hW3] at hb4 hq0
  obtain ⟨W6, hW6⟩ : ∃ X, w5.alloc (.cells #[.pointer (some ⟨q0, 0, none⟩), .pointer (some ⟨q1, 0, none⟩)] 28) = X := ⟨_, rfl⟩
  have hk6 : Blk W6 w5.heap.size 28 #[.pointer (some ⟨q0, 0, none⟩), .pointer (some ⟨q1, 0, none⟩)] := hW6 ▸ Blk.new _ _ _
  have hb6 : Below w5.heap.size w5 W6 := hW6 ▸ (Below.refl _ _).alloc (Nat.le_refl _) _
  rw [hW6]
  have y1 := hb1.size
  have y2 := hb2.size
  have y4 := hb4.size
  have y5 := hb5.size
  have b45 := below_after hb4 hb5
  have b46 := below_after b45 hb6
  have b36 := below_after hb3 b46
  have b26 := below_after hb2 b36
  have b56 := below_after hb5 hb6
  have l0 : ∀ i, s0.of i → i < w1.heap.size := fun i hi => hs0.lt hi
  have l1 : ∀ i, s1.of i → i < w2.heap.size := fun i hi => hs1.lt hi
  have k0 : q0 < w4.heap.size := hr0.blk.lt
  have k1 : q1 < w5.heap.size := hr1.blk.lt
  have e0 : ∀ i, RS.of ⟨q0, na, .slice none 0 0, [], .slice none 0 0, []⟩ i → i = q0 := fun i hi => ofR0 rfl rfl rfl hi
  have e1 : ∀ i, RS.of ⟨q1, nb, .slice none 0 0, [], .slice none 0 0, []⟩ i → i = q1 := fun i hi => ofR0 rfl rfl rfl hi
  have hso : ∀ i, Own11 w2.heap.size w5.heap.size (.slice none 0 0) [] i → i = w2.heap.size ∨ i = w5.heap.size := by
    rintro i (h | h | h | ⟨x, hx, _⟩)
    · exact .inl h
    · exact .inr h
    · cases h
    · cases hx
  have two : ∀ j, j < 2 → j = 0 ∨ j = 1 := fun j hj => by omega
  have hsim : ∀ s : StV, s.chs = [] → s.R = [] → s.bg = 0 → Sim s ⟨[], [], 0⟩ := fun s h1 h2 h3 => ⟨by unfold StV.rows; rw [h1]; exact List.Perm.refl _, h2, h3⟩
  refine ⟨hk3.below b46 hk3.lt, hk6, fun j hj => ?_, fun j hj => ?_, fun j hj => ?_, fun j hj => ?_, fun j hj => ⟨Nat.le_refl _, Nat.le_refl _, Nat.le_refl _, by simp⟩, fun j hj => ?_, ⟨fun i => if i < w1.heap.size then 0 else if i < w2.heap.size then 2 else if i = w2.heap.size then 4 else if i < w4.heap.size then 1 else if i < w5.heap.size then 3 else 4, fun j hj i hi => ?_, fun j hj i hi => ?_, fun i hi => ?_⟩, fun j hj i hi => ?_, fun j hj i hi => ?_, fun i hi => ?_,
    below_after hb1 b26, World.ownsRow_nil _ _ _ _, (fun x hx => by cases hx), (fun x hx => by cases hx), Nat.zero_le _, ⟨fun _ => 0, fun j hj => by simp at hj⟩⟩
  · rcases two j hj with rfl | rfl
    · exact hs0.below b26
    · exact hs1.below b36
  · rcases two j hj with rfl | rfl
    · exact hr0.below b56
    · exact hr1.below hb6
  · rcases two j hj with rfl | rfl
    · exact hsim s0 hc0 hR0 hg0
    · exact hsim s1 hc1 hR1 hg1
  · rcases two j hj with rfl | rfl
    · exact ⟨rfl, rfl, rfl⟩
    · exact ⟨rfl, rfl, rfl⟩
  · rcases two j hj with rfl | rfl
    · exact congrArg Int.ofNat hn0.symm
    · exact congrArg Int.ofNat hn1.symm
  · rcases two j hj with rfl | rfl
    · have := l0 i hi
      simp only; rw [if_pos this]
    · have h1 := l1 i hi
      have h2 := ho1 i hi
      simp only; rw [if_neg (by omega), if_pos h1]
  · rcases two j hj with rfl | rfl
    · have := e0 i hi
      simp only; rw [if_neg (by omega), if_neg (by omega), if_neg (by omega), if_pos (by omega)]
    · have := e1 i hi
      simp only; rw [if_neg (by omega), if_neg (by omega), if_neg (by omega), if_neg (by omega), if_pos (by omega)]
  · simp only
    rcases hso i hi with rfl | rfl
    · rw [if_neg (by omega), if_neg (by omega), if_pos rfl]
    · rw [if_neg (by omega), if_neg (by omega), if_neg (by omega), if_neg (by omega), if_neg (by omega)]
  · rcases two j hj with rfl | rfl
    · exact ho0 i hi
    · have := ho1 i hi; omega
  · rcases two j hj with rfl | rfl
    · have := e0 i hi; omega
    · have := e1 i hi; omega
  · rcases hso i hi with rfl | rfl <;> omega
def GivesK (w : World) (ks : List Key) (e : Ending) (w' : World) : Prop := ∃ A c, e = .returned (.slice A ks.length c) ∧ w'.ownsRow w.heap.size 33 2 (.slice A ks.length c) ks.length (keysC ks) ∧ Below w.heap.size w w'
theorem sorted_eq {a b : List Key} (h : a.Perm b) (ha : a.Pairwise ltK) (hb : b.Pairwise ltK) : a = b :=
  h.eq_of_pairwise (fun x y _ _ h1 h2 => by unfold ltK at *; omega) ha hb
def ksOf (A : Nat → AbS) (j : Nat) : List Key := srtK ((A j).rows.map (·.1))
set_option maxRecDepth 100000 in
set_option maxHeartbeats 1000000 in
theorem apartKeys_nil (w : World) : Calls Tryz.prog 15 #[.slice none 0 0] w fun e w' => e = .returned (.bool true) ∧ Below w.heap.size w w' ∧ KeepT 33 w w' := by
  go_enter Tryz.func15, Tryz.ntmps15
  rename World => W
  go_wp2_with (fail)
  go_loopw [3] (fun i wr => i = .int .i64 0 ∧ wr = W) (fun _ _ => 0)
  case atStart => exact ⟨rfl, rfl⟩
  case round =>
    obtain ⟨rfl, hw⟩ := hrel
    subst hw
    rename World => W
    go_wp2_with (fail)
    go_loopw [5, 6] (fun gv i wx => gv = .slice none 0 0 ∧ i = .int .i64 0 ∧ wx = W) (fun _ _ _ => 0)
    case atStart => exact ⟨rfl, rfl, rfl⟩
    case round =>
      obtain ⟨rfl, rfl, hw⟩ := hrel
      subst hw
      rename World => W
      go_wp2_with (fail)
      go_loopw [9] (fun i wy => i = .int .i64 0 ∧ wy = W) (fun _ _ => 0)
      case atStart => exact ⟨rfl, rfl⟩
      case round =>
        obtain ⟨rfl, rfl⟩ := hrel
        go_wp2
        go_ret
        exact ⟨rfl, Below.refl _ _, KeepT.refl _ _⟩
section
variable {w0 w w' : World} {n gx gr : Nat} {a : Nat → StV} {d : Nat → RS} {A : Nat → AbS} {tv : Value} {P : List KL}
theorem Sc11.ksN (h : Sc11 w0 w n gx gr a d A tv P) {j : Nat} (hj : j < 2) : (ksOf A j).length ≤ n := by unfold ksOf; rw [srtK_len, List.length_map]; exact (h.bnd j hj).r
theorem Sc11.keys (h : Sc11 w0 w n gx gr a d A tv P) (hn : n ≤ 3000000000000) {j : Nat} (hj : j < 2) : Calls Tryz.prog 12 #[.pointer (some ⟨(a j).p, 0, none⟩)] w (GivesK w (ksOf A j)) := by
  have hl : (a j).chs.length ≤ n := by
    have h1 := (h.sim j hj).rows.length_eq
    have h2 := (h.bnd j hj).r
    rw [← h1] at h2
    unfold StV.rows at h2
    simpa using h2
  refine (keysS_calls (a j) w (h.sa j hj) (by omega)).mono ?_
  rintro e w' ⟨v, l, rfl, ho, hp, hu, hb⟩
  have hnd := (h.bnd j hj).nd
  have e1 : l = ksOf A j := sorted_eq (hp.trans (((h.sim j hj).rows.map _).trans (srtK_perm _).symm)) hu (srtK_up hnd)
  subst e1
  obtain ⟨B, c, rfl⟩ := own_slice ho
  exact ⟨B, c, rfl, ho, hb⟩
theorem Sc11.keysR (h : Sc11 w0 w n gx gr a d A tv P) (hn : n ≤ 3000000000000) {j : Nat} (hj : j < 2) : Calls Tryz.prog 14 #[.pointer (some ⟨(d j).p, 0, none⟩)] w (GivesK w (ksOf A j)) := by
  have hl : (d j).rows.length ≤ n := by
    have h2 := (h.bnd j hj).r
    rw [← (h.rsim j hj).rows] at h2
    unfold RS.rowsA at h2
    simpa using h2
  refine (rkeys_calls (d j) w (h.ra j hj) (by omega)).mono ?_
  rintro e w' ⟨v, l, rfl, ho, hp, hu, hb⟩
  have hnd := (h.bnd j hj).nd
  rw [(h.rsim j hj).rows] at hp
  have e1 : l = ksOf A j := sorted_eq (hp.trans (srtK_perm _).symm) hu (srtK_up hnd)
  subst e1
  obtain ⟨B, c, rfl⟩ := own_slice ho
  exact ⟨B, c, rfl, ho, hb⟩
theorem Sc11.vers (h : Sc11 w0 w n gx gr a d A tv P) (hn : n ≤ 3000000000000) {j : Nat} (hj : j < 2) : Calls Tryz.prog 16 #[.pointer (some ⟨(a j).p, 0, none⟩)] w fun e w' => e = .returned (.int .i64 (total (A j).rows)) ∧ Below w.heap.size w w' := by
  have ht : Go.Proofs.YtflkddllofeiaaaGreatDoor.lens (a j).chs = total (A j).rows := by rw [lens_rows, total_perm (h.sim j hj).rows]
  rw [← ht]
  exact versionsS_calls (a j) w (h.sa j hj) (by rw [ht]; have := (h.bnd j hj).t; omega)
theorem Sc11.versR (h : Sc11 w0 w n gx gr a d A tv P) (hn : n ≤ 3000000000000) {j : Nat} (hj : j < 2) : Calls Tryz.prog 17 #[.pointer (some ⟨(d j).p, 0, none⟩)] w fun e w' => e = .returned (.int .i64 (total (A j).rows)) ∧ w' = w := by
  have hl : (d j).rows.length ≤ n := by
    have h2 := (h.bnd j hj).r
    rw [← (h.rsim j hj).rows] at h2
    unfold RS.rowsA at h2
    simpa using h2
  rw [← (h.rsim j hj).rows]
  exact rversions_calls (d j) w (h.ra j hj) (by rw [(h.rsim j hj).rows]; have := (h.bnd j hj).t; omega) (by omega)
theorem Sc11.shC (h : Sc11 w0 w n gx gr a d A tv P) {j : Nat} (hj : j < 2) : Calls Tryz.prog 18 #[.pointer (some ⟨(a j).p, 0, none⟩)] w fun e w' => e = .returned (.int .i64 (a j).n) ∧ w' = w := shards_calls (a j) w (h.sa j hj)
theorem Sc11.shR (h : Sc11 w0 w n gx gr a d A tv P) {j : Nat} (hj : j < 2) : w.cell? ⟨(d j).p, 0, none⟩ = some (.int .i64 (a j).n) := by rw [(h.ra j hj).blk.cell 0, h.sh j hj]; rfl
theorem sameK_own (l : List Key) (B C : Option Addr) (c e : Nat) (w : World) {b1 b2 : Nat} (ha : w.ownsRow b1 33 2 (.slice B l.length c) l.length (keysC l)) (hb : w.ownsRow b2 33 2 (.slice C l.length e) l.length (keysC l)) (hl : l.length ≤ 4611686018427387904) :
    Calls Tryz.prog 13 #[.slice B l.length c, .slice C l.length e] w fun e w' => e = .returned (.bool true) ∧ Below w.heap.size w w' := sameK_calls l B C c e w (Reads.of_own ha) (Reads.of_own hb) hl
theorem own_keepT {base e s n : Nat} {v : Value} {xs : List Value} (h : w.ownsRow base e s v n xs) (hk : KeepT 33 w w') (hne : e ≠ 33) : w'.ownsRow base e s v n xs := by
  refine ⟨h.1, ?_⟩
  rcases h.2 with h0 | ⟨g, cap, cur, rfl, h1, h2, h3⟩
  · exact .inl h0
  · exact .inr ⟨g, cap, cur, rfl, h1, hk.out g e cur hne h2, h3⟩
theorem MapT.keepT {K V : Type} {ek : K → Value} {ev : V → Value} {g : Nat} {M : List (K × V)} (h : MapT ek ev w g M) (hk : KeepT 33 w w') : MapT ek ev w' g M := by
  obtain ⟨es, clk, h1, h2⟩ := h
  exact ⟨es, clk, hk.map g es clk h1, h2⟩
theorem StAt.keepT {s : StV} (h : StAt w s) (hk : KeepT 33 w w') : StAt w' s :=
  ⟨hk.out _ _ _ (by decide) h.blk, hk.out _ _ _ (by decide) h.row, h.n1, h.len, fun i h1 h2 => (h.maps i h1 h2).keepT hk, h.msn, fun q hq => ⟨hk.out _ _ _ (by decide) (h.chs q hq).blk, own_keepT (h.chs q hq).row hk (by decide), (h.chs q hq).up, (h.chs q hq).len⟩, h.shd, h.kn, h.apart, h.rd.keepT hk, h.rdn, h.rdk, h.mrn⟩
theorem RSAt.keepT {r : RS} (h : RSAt w r) (hk : KeepT 33 w w') : RSAt w' r :=
  ⟨hk.out _ _ _ (by decide) h.blk, own_keepT h.row hk (by decide), fun x hx => own_keepT (h.vs x hx) hk (by decide), own_keepT h.rd hk (by decide), h.up, h.mx, h.kn⟩
/-- Behind ApartKeys. -/
theorem Sc11.apart (h : Sc11 w0 w n gx gr a d A tv P) (hb : Below w0.heap.size w0 w') (hk : KeepT 33 w w') (hsz : w.heap.size ≤ w'.heap.size) : Sc11 w0 w' n gx gr a d A (.slice none 0 0) [] := by
  have hso : ∀ i, Own11 gx gr (.slice none 0 0) [] i → Own11 gx gr tv P i := by
    rintro i (h | h | h | ⟨x, hx, _⟩)
    · exact .inl h
    · exact .inr (.inl h)
    · cases h
    · cases hx
  obtain ⟨f, f1, f2, f3⟩ := h.ow
  exact ⟨hk.out _ _ _ (by decide) h.bx, hk.out _ _ _ (by decide) h.br, fun j hj => (h.sa j hj).keepT hk, fun j hj => (h.ra j hj).keepT hk, h.sim, h.rsim, h.bnd, h.sh, ⟨f, f1, f2, fun i hi => f3 i (hso i hi)⟩, h.la, h.ld, fun i hi => h.lo i (hso i hi), hb,
    World.ownsRow_nil _ _ _ _, (fun x hx => by cases hx), (fun x hx => by cases hx), Nat.zero_le _, ⟨fun _ => 0, fun j hj => by simp at hj⟩⟩
theorem fil0_of_own {B k m : Nat} {ow : Nat → Nat} {v : Value} {xs : List Value} (h : w.ownsRow B 33 2 v m xs) (how : ∀ b, v.ownBlock = some b → ow b = k) : Fil keysMark 33 ow B w v k m 0 := by
  rcases h.2 with ⟨h0, h1⟩ | ⟨g, cap, cur, rfl, h1, h2, h3, h4, h5, h6⟩
  · exact .inl ⟨h0, h1⟩
  · exact .inr ⟨g, cap, cur, rfl, h1, how g rfl, h2, by omega, by omega, by omega, Nat.zero_le _, fun i hi => by omega⟩
theorem Sc11.parts {gL c : Nat} (h : Sc11 w0 w n gx gr a d A (.slice (some ⟨gL, 0, none⟩) P.length c) P) (hn : n ≤ 2550000000000) :
    Calls Tryz.prog 15 #[.slice (some ⟨gL, 0, none⟩) P.length c] w fun e w' => e = .returned (.bool true) ∧ Sc11 w0 w' n gx gr a d A (.slice none 0 0) [] := by
  obtain ⟨ow, how⟩ := h.sep
  have hrow := h.row
  rcases hrow.2 with ⟨h0, _⟩ | ⟨g, cap, cur, hv, h1, h2, h3, h4, h5, h6⟩
  · cases h0
  · injection hv with hv _ _
    injection hv with hv
    injection hv with hv
    subst hv
    have hcur : ∀ k, k < P.length → cur[k]? = some ((P[k]?.map KL.v).getD (.slice none 0 0)) := by
      intro k hk
      have hc := row_cell KL.len (c := c) hrow hk (r := 0) (v := P[k].v) rfl
      rw [(show Blk w gL 40 cur from h2).cell] at hc
      rw [List.getElem?_eq_getElem hk]
      simpa using hc
    have hpl := h.pl
    refine (apartKeys_calls P.length gL c (fun k => (P[k]?.map KL.v).getD (.slice none 0 0)) (fun k => (P[k]?.map (fun x => x.ks.length)).getD 0) ow w0.heap.size cur w h2 hcur (fun j hj => ?_) (by omega) (fun j hj => ?_) h.bel.size).mono ?_
    · simp only [List.getElem?_eq_getElem hj, Option.map_some, Option.getD_some]
      exact fil0_of_own (h.inP _ (List.getElem_mem hj)) (fun b hb => how j hj b hb)
    · have := h.lens _ (List.getElem_mem hj)
      simp only [List.getElem?_eq_getElem hj, Option.map_some, Option.getD_some]
      omega
    · rintro e w' ⟨rfl, hb, hk⟩
      have hbb := h.bel.trans hb
      exact ⟨rfl, h.apart hbb hk (by have := hb.size; have := h.bel.size; omega)⟩
theorem Sc11.apartC (h : Sc11 w0 w n gx gr a d A tv P) (hn : n ≤ 2550000000000) : Calls Tryz.prog 15 #[tv] w fun e w' => e = .returned (.bool true) ∧ Sc11 w0 w' n gx gr a d A (.slice none 0 0) [] := by
  rcases h.row.2 with ⟨h0, _⟩ | ⟨g, cap, cur, h0, _⟩
  · subst h0
    refine (apartKeys_nil w).mono ?_
    rintro e w' ⟨rfl, hb, hk⟩
    exact ⟨rfl, h.apart (below_after h.bel hb) hk hb.size⟩
  · subst h0
    exact h.parts hn
theorem sep_two {x y : KL} {B : Nat} (h1 : ∀ i, x.v.ownBlock = some i → i < B) (h2 : ∀ i, y.v.ownBlock = some i → B ≤ i) : ∃ f : Nat → Nat, ∀ j (hj : j < [x, y].length) i, [x, y][j].v.ownBlock = some i → f i = j := by
  refine ⟨fun i => if i < B then 0 else 1, fun j hj i hi => ?_⟩
  obtain rfl | rfl : j = 0 ∨ j = 1 := by simp at hj; omega
  · simp only
    rw [if_pos (h1 i hi)]
  · have := h2 i hi
    simp only
    rw [if_neg (by omega)]
theorem two_rows {B : Nat} {x y : KL} (h1 : w.ownsRow B 33 2 x.v x.ks.length (keysC x.ks)) (h2 : w.ownsRow B 33 2 y.v y.ks.length (keysC y.ks)) : ∀ z ∈ [x, y], w.ownsRow B 33 2 z.v z.ks.length (keysC z.ks) := by
  intro z hz
  rcases List.mem_cons.1 hz with rfl | hz
  · exact h1
  · rw [List.mem_singleton.1 hz]; exact h2
theorem two_lens {m : Nat} {x y : KL} (h1 : x.ks.length ≤ m) (h2 : y.ks.length ≤ m) : ∀ z ∈ [x, y], z.ks.length ≤ m := by
  intro z hz
  rcases List.mem_cons.1 hz with rfl | hz
  · exact h1
  · rw [List.mem_singleton.1 hz]; exact h2
end
end Go.Proofs.YtflkddllofeiaaaGreatDoor
