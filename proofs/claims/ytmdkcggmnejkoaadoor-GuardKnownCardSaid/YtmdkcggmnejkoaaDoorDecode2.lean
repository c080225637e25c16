/- guard's readers of legs and pairs, by contracts. -/
import Derived.Test.YtmdkcggmnejkoaaDoorDecode
import Derived.Deep.LoopGhost
import Derived.Deep.AppendLies
import Derived.Deep.RegionHeld3
import Derived.Test.YtmdkcggmnejkoaaDoorWLast
namespace Go.Proofs.YtmdkcggmnejkoaaDoor
set_option linter.unusedSimpArgs false
set_option linter.unusedVariables false
open Go.RowKit Go.Proofs.YtmdkcggmnejkoaaDoorW.PrintLast

theorem intsLen (l : List Int) : (l.flatMap Int.cs).length = l.length := by
  induction l with
  | nil => rfl
  | cons x r ih => simp [Int.cs, ih]

def legs5 : List Int → Option (List Leg)
  | [] => some []
  | f :: t :: a :: q :: n :: r => (legs5 r).map (⟨f, t, a, q, n⟩ :: ·)
  | _ => none
theorem infoLeg : (Tryd.prog.info? 45).map (fun i => (i.zero, i.size, i.bytes)) = some (some (.agg #[.int .i64 0, .int .i64 0, .int .i64 0, .int .i64 0, .int .i64 0]), 5, 40) := by kernel_rfl

theorem Two.grown {w w1 w2 : World} {a b : Nat} {row : Option Nat} (h : Two w w1 a b) (hg : w1.grownBy w2 row) (hr : ∀ g, row = some g → w.heap.size ≤ g) : Two w w2 a b :=
  ⟨hg.os.trans h.os, hg.tape.trans h.tape, hg.output.trans h.output, Nat.le_trans h.size hg.size, fun i hi ha hb => (hg.block i (Nat.lt_of_lt_of_le hi h.size) (fun e => by have := hr _ e.symm; omega)).trans (h.block i hi ha hb)⟩
theorem RowAt.grown {w w' : World} {gr B : Nat} {rem : List Int} {row : Option Nat} (h : RowAt w gr B rem) (hg : w.grownBy w' row) (hn : some gr ≠ row) (hB : B ≤ w.heap.size) (hr : ∀ g, row = some g → B ≤ g) : RowAt w' gr B rem := by
  obtain ⟨A, c, hk, hc, hr'⟩ := h
  exact ⟨A, c, hk.grown hg hn, hc, hr'.grown hg hB hr⟩
/-- Elements k.. of the row that is read. -/
theorem RowAt.cut {w : World} {gr B k : Nat} {xs rem : List Int} {A : Option Addr} {c : Nat} (hk : Blk w gr 89 #[.slice A (rem.length + k) c]) (hc : rem.length + k ≤ c) (hr : Reads w B 1 A (rem.length + k) (intsC (xs ++ rem))) (hx : xs.length = k) (hB : B ≤ gr) :
    RowAt (w.setCell ⟨gr, 0, none⟩ (.slice (if c = k then A else A.map (·.add (k * 1))) rem.length (c - k))) gr B rem := by
  have cut := hr.cut (k := k) (cap := c) (by omega) hc
  have e : rem.length + k - k = rem.length := by omega
  have ed : (intsC (xs ++ rem)).drop (k * 1) = intsC rem := by
    rw [Nat.mul_one]
    subst hx
    simp only [intsC, List.flatMap_append]
    rw [List.drop_append_of_le_length (Nat.le_of_eq (intsLen xs).symm), List.drop_eq_nil_of_le (Nat.le_of_eq (intsLen xs)), List.nil_append]
  rw [e, ed] at cut
  exact ⟨_, c - k, hk.set_ 0 _, by omega, cut.setCell hB _⟩

/-- Legs read: the operation's list is made. -/
def LegsTo (w : World) (gr go B : Nat) (c0 a b q n x : Int) (P : Value) (ls : List Leg) (e : Ending) (w' : World) : Prop :=
  e = .returned (.bool true) ∧ RowAt w' gr B [] ∧ Two w w' gr go ∧ ∃ v, w'.ownsRow w.heap.size 45 5 v ls.length (legsC ls) ∧ Blk w' go 33 (opCs c0 a b q n x v P)

def LegsPost (w : World) (gr go B : Nat) (c0 a b q n x : Int) (P : Value) (rest : List Int) (e : Ending) (w' : World) : Prop :=
  match legs5 rest with
  | some ls => LegsTo w gr go B c0 a b q n x P ls e w'
  | none => FailTo w gr go e w'
theorem LegsPost.ok {w w' : World} {gr go B : Nat} {c0 a b q n x : Int} {P : Value} {rest : List Int} {ls : List Leg} {e : Ending} (h : legs5 rest = some ls) (k : LegsTo w gr go B c0 a b q n x P ls e w') : LegsPost w gr go B c0 a b q n x P rest e w' := by
  unfold LegsPost; rw [h]; exact k
theorem LegsPost.no {w w' : World} {gr go B : Nat} {c0 a b q n x : Int} {P : Value} {rest : List Int} {e : Ending} (h : legs5 rest = none) (k : FailTo w gr go e w') : LegsPost w gr go B c0 a b q n x P rest e w' := by
  unfold LegsPost; rw [h]; exact k
theorem legs5_short {l : List Int} (h0 : 0 < l.length) (h1 : l.length < 5) : legs5 l = none := by
  match l, h0, h1 with
  | [_], _, _ => rfl
  | [_, _], _, _ => rfl
  | [_, _, _], _, _ => rfl
  | [_, _, _, _], _, _ => rfl
  | _ :: _ :: _ :: _ :: _ :: _, _, h => exact absurd h (by simp only [List.length_cons]; omega)

set_option maxRecDepth 100000 in
set_option maxHeartbeats 8000000 in
theorem legs_calls (gr go B : Nat) (c0 a b q n i x : Int) (P : Value) (rest : List Int) (w : World) (h : RowAt w gr B (x :: rest)) (hg : Blk w go 33 (opCs c0 a b q n i (.slice none 0 0) P)) (hB : B ≤ gr) (hB2 : B ≤ go) (hne : go ≠ gr)
    (hlen : rest.length ≤ 17592186044416) :
    Calls Tryd.prog 75 #[.pointer (some ⟨gr, 0, none⟩), .pointer (some ⟨go, 0, none⟩)] w (LegsPost w gr go B c0 a b q n x P rest) := by
  obtain ⟨i0, hi0, hz0, hz1, hz2⟩ := info_parts infoLeg
  go_enter Tryd.func75, Tryd.ntmps75
  go_wp2_with (go_at_call 76; refine (id_cons gr go B c0 a b q n i x _ P rest _ h hg hB hB2 hne).mono ?_; rintro e w1 ⟨rfl, hr1, hg1, ht1, hs1⟩)
  clear h hg
  have hgrlt := hr1.lt
  have hgolt := hg1.lt
  go_loopg [] rest.length (fun g wr => ∃ (done : List Leg) (rem : List Int) (v : Value), g = rem.length ∧ rem.length + 5 * done.length = rest.length ∧ (legs5 rem).map (done ++ ·) = legs5 rest ∧ RowAt wr gr B rem ∧ Two w wr gr go ∧ wr.ownsRow w.heap.size 45 5 v done.length (legsC done) ∧ Blk wr go 33 (opCs c0 a b q n x v P))
  case atStart => exact ⟨[], rest, _, rfl, rfl, by cases legs5 rest <;> rfl, hr1, ht1, World.ownsRow_nil _ _ _ _, hg1⟩
  case round =>
    clear hr1 hg1
    obtain ⟨done, rem, v, hgk, hln, hps, hrow, htw, hown, hblk⟩ := hrel
    have HPS := Lib.hid hps
    have HLN := Lib.hid hln
    have HGK := Lib.hid hgk
    clear hps hln hgk
    match rem, hrow, HPS, HLN, HGK with
    | [], hrow, HPS, HLN, HGK =>
      have hr := hrow
      obtain ⟨A, c, hb, _, _⟩ := hr
      have hc : wr.cell? ⟨gr, 0, none⟩ = some (.slice A 0 c) := hb.cell 0
      clear hb
      go_wp2
      go_ret
      have e : legs5 rest = some done := by rw [← HPS.out]; simp [legs5]
      exact LegsPost.ok e ⟨rfl, hrow, htw, v, hown, hblk⟩
    | [y0], hrow, HPS, _, _ =>
      have hr := hrow
      obtain ⟨A, c, hb, _, _⟩ := hr
      have hc : wr.cell? ⟨gr, 0, none⟩ = some (.slice A 1 c) := hb.cell 0
      clear hb
      go_wp2
      go_ret
      exact LegsPost.no (by rw [← HPS.out]; rfl) ⟨rfl, htw⟩
    | [y0, y1], hrow, HPS, _, _ =>
      have hr := hrow
      obtain ⟨A, c, hb, _, _⟩ := hr
      have hc : wr.cell? ⟨gr, 0, none⟩ = some (.slice A 2 c) := hb.cell 0
      clear hb
      go_wp2
      go_ret
      exact LegsPost.no (by rw [← HPS.out]; rfl) ⟨rfl, htw⟩
    | [y0, y1, y2], hrow, HPS, _, _ =>
      have hr := hrow
      obtain ⟨A, c, hb, _, _⟩ := hr
      have hc : wr.cell? ⟨gr, 0, none⟩ = some (.slice A 3 c) := hb.cell 0
      clear hb
      go_wp2
      go_ret
      exact LegsPost.no (by rw [← HPS.out]; rfl) ⟨rfl, htw⟩
    | [y0, y1, y2, y3], hrow, HPS, _, _ =>
      have hr := hrow
      obtain ⟨A, c, hb, _, _⟩ := hr
      have hc : wr.cell? ⟨gr, 0, none⟩ = some (.slice A 4 c) := hb.cell 0
      clear hb
      go_wp2
      go_ret
      exact LegsPost.no (by rw [← HPS.out]; rfl) ⟨rfl, htw⟩
    | f :: t :: a' :: q' :: m :: r, hrow, HPS, HLN, HGK =>
      have hbl := HLN.out
      simp only [List.length_cons] at hbl
      obtain ⟨A, c, hb, hcap, hr⟩ := hrow
      have hlen5 : (f :: t :: a' :: q' :: m :: r).length = r.length + 5 := rfl
      rw [hlen5] at hb hcap hr
      have hc : wr.cell? ⟨gr, 0, none⟩ = some (.slice A (r.length + 5) c) := hb.cell 0
      have hfz : wr.frozen? ⟨gr, 0, none⟩ = false := hb.frozen 0
      have hv : wr.cell? ⟨go, 6, none⟩ = some v := hblk.cell 6
      have hvf : wr.frozen? ⟨go, 6, none⟩ = false := hblk.frozen 6
      obtain ⟨ad, e, hadb, hcell⟩ := hr.2 (by omega)
      subst e
      have ha0 : ad.add 0 = ad := by simp [Addr.add]
      have p0 := hcell 0 _ rfl
      rw [ha0] at p0
      have p1 := hcell 1 _ rfl
      have p2 := hcell 2 _ rfl
      have p3 := hcell 3 _ rfl
      have p4 := hcell 4 _ rfl
      have HR := Lib.hid hr
      have HB := Lib.hid hb
      have HK := Lib.hid hblk
      clear hlen5 hr hb hblk hcell ha0
      simp only [Addr.add, if_false, (by decide : ¬ (1:Nat) = 0), (by decide : ¬ (2:Nat) = 0), (by decide : ¬ (3:Nat) = 0), (by decide : ¬ (4:Nat) = 0)] at p1 p2 p3 p4
      go_wp2_with (fail)
      have hfa : ∀ o, (wr.alloc o).frozen? ⟨go, 6, none⟩ = false := fun o => (HK.out.alloc o).frozen 6
      have lg : gr < wr.heap.size := World.block_lt_of_cell? wr _ hc
      have lo : go < wr.heap.size := World.block_lt_of_cell? wr _ hv
      have la : ad.block < wr.heap.size := World.block_lt_of_cell? wr _ p0
      have lw : w.heap.size ≤ wr.heap.size := by have := htw.size; omega
      have ag : v.ownBlock ≠ some gr := fun hk => by have := own_base hown hk; omega
      have ao : v.ownBlock ≠ some go := fun hk => by have := own_base hown hk; omega
      have aa : v.ownBlock ≠ some ad.block := fun hk => by have := own_base hown hk; omega
      have hmax : done.length + 1 ≤ maxLen := by simp only [maxLen]; omega
      have hby : (done.length + 1) * 40 ≤ 140737488355328 := by omega
      have b1 : (1 : Int) < (r.length : Int) + 5 := by omega
      have b2 : (2 : Int) < (r.length : Int) + 5 := by omega
      have b3 : (3 : Int) < (r.length : Int) + 5 := by omega
      have b4 : (4 : Int) < (r.length : Int) + 5 := by omega
      refine start_ (n := 41) (S := fun w' => w'.cell? ⟨gr, 0, none⟩ = some (.slice (some ad) (r.length + 5) c) ∧ w'.cell? ⟨go, 6, none⟩ = some v ∧ w'.cell? ad = some (.int .i64 f) ∧ w'.cell? ⟨ad.block, ad.off + 1, none⟩ = some (.int .i64 t) ∧ w'.cell? ⟨ad.block, ad.off + 2, none⟩ = some (.int .i64 a') ∧ w'.cell? ⟨ad.block, ad.off + 3, none⟩ = some (.int .i64 q') ∧ w'.cell? ⟨ad.block, ad.off + 4, none⟩ = some (.int .i64 m)) (ds := [40]) #[false, false, false, false, false, false, false, false, false, false, false, false, false, false, false, false, false, false, false, false, false, false, false, false, false, false, false, false, false, false, false, false, false, false, false, false, false, false, false, false, false] (by kernel_rfl) rfl rfl ⟨hc, hv, p0, p1, p2, p3, p4⟩ (fun hHeld => ?_)
      refine pure_ (i := 0) (N := some 21) (v := ?_) (a' := ?_) #[true, false, false, false, false, false, false, false, false, false, false, false, false, false, false, false, false, false, false, false, false, false, false, false, false, false, false, false, false, false, false, false, false, false, false, false, false, false, false, false, false] rfl rfl (by kernel_rfl) (fun _ _ _ h => h) (Or.inl ⟨by rfl, ?_⟩) ?_ ?_
      rotate_left
      · intro w'
        go_simp
        with_reducible rfl
      rotate_left
      · simp only [Act.put, List.setIfInBounds_toArray, List.set_cons_zero, List.set_cons_succ, i64_w, i32_w]
        rfl
      refine pure_ (i := 1) (N := some 22) (v := ?_) (a' := ?_) #[true, true, false, false, false, false, false, false, false, false, false, false, false, false, false, false, false, false, false, false, false, false, false, false, false, false, false, false, false, false, false, false, false, false, false, false, false, false, false, false, false] rfl rfl (by kernel_rfl) (fun _ _ _ h => h) (Or.inl ⟨by rfl, ?_⟩) ?_ ?_
      rotate_left
      · intro w'
        go_simp
        with_reducible rfl
      rotate_left
      · simp only [Act.put, List.setIfInBounds_toArray, List.set_cons_zero, List.set_cons_succ, i64_w, i32_w]
        rfl
      refine pure_ (i := 2) (N := some 23) (v := ?_) (a' := ?_) #[true, true, true, false, false, false, false, false, false, false, false, false, false, false, false, false, false, false, false, false, false, false, false, false, false, false, false, false, false, false, false, false, false, false, false, false, false, false, false, false, false] rfl rfl (by kernel_rfl) (fun _ _ _ h => h) (Or.inl ⟨by rfl, ?_⟩) ?_ ?_
      rotate_left
      · intro w'
        go_simp
        with_reducible rfl
      rotate_left
      · simp only [Act.put, List.setIfInBounds_toArray, List.set_cons_zero, List.set_cons_succ, i64_w, i32_w]
        rfl
      refine pure_ (i := 3) (N := some 24) (v := ?_) (a' := ?_) #[true, true, true, true, false, false, false, false, false, false, false, false, false, false, false, false, false, false, false, false, false, false, false, false, false, false, false, false, false, false, false, false, false, false, false, false, false, false, false, false, false] rfl rfl (by kernel_rfl) (fun _ _ _ h => h) (Or.inl ⟨by rfl, ?_⟩) ?_ ?_
      rotate_left
      · intro w'
        go_simp
        with_reducible rfl
      rotate_left
      · simp only [Act.put, List.setIfInBounds_toArray, List.set_cons_zero, List.set_cons_succ, i64_w, i32_w]
        rfl
      refine pure_ (i := 5) (N := some 26) (v := ?_) (a' := ?_) #[true, true, true, true, false, true, false, false, false, false, false, false, false, false, false, false, false, false, false, false, false, false, false, false, false, false, false, false, false, false, false, false, false, false, false, false, false, false, false, false, false] rfl rfl (by kernel_rfl) (fun _ _ _ h => h) (Or.inl ⟨by rfl, ?_⟩) ?_ ?_
      rotate_left
      · intro w'
        go_simp
        with_reducible rfl
      rotate_left
      · simp only [Act.put, List.setIfInBounds_toArray, List.set_cons_zero, List.set_cons_succ, i64_w, i32_w]
        rfl
      refine pure_ (i := 6) (N := some 27) (v := ?_) (a' := ?_) #[true, true, true, true, false, true, true, false, false, false, false, false, false, false, false, false, false, false, false, false, false, false, false, false, false, false, false, false, false, false, false, false, false, false, false, false, false, false, false, false, false] rfl rfl (by kernel_rfl) (fun _ _ _ h => h) (Or.inl ⟨by rfl, ?_⟩) ?_ ?_
      rotate_left
      · intro w'
        go_simp
        with_reducible rfl
      rotate_left
      · simp only [Act.put, List.setIfInBounds_toArray, List.set_cons_zero, List.set_cons_succ, i64_w, i32_w]
        rfl
      refine pure_ (i := 7) (N := some 28) (v := ?_) (a' := ?_) #[true, true, true, true, false, true, true, true, false, false, false, false, false, false, false, false, false, false, false, false, false, false, false, false, false, false, false, false, false, false, false, false, false, false, false, false, false, false, false, false, false] rfl rfl (by kernel_rfl) (fun _ _ _ h => h) (Or.inl ⟨by rfl, ?_⟩) ?_ ?_
      rotate_left
      · intro w'
        go_simp
        with_reducible rfl
      rotate_left
      · simp only [Act.put, List.setIfInBounds_toArray, List.set_cons_zero, List.set_cons_succ, i64_w, i32_w]
        rfl
      refine pure_ (i := 11) (N := some 32) (v := ?_) (a' := ?_) #[true, true, true, true, false, true, true, true, false, false, false, true, false, false, false, false, false, false, false, false, false, false, false, false, false, false, false, false, false, false, false, false, false, false, false, false, false, false, false, false, false] rfl rfl (by kernel_rfl) (fun _ _ _ h => h) (Or.inl ⟨by rfl, ?_⟩) ?_ ?_
      rotate_left
      · intro w'
        go_simp
        with_reducible rfl
      rotate_left
      · simp only [Act.put, List.setIfInBounds_toArray, List.set_cons_zero, List.set_cons_succ, i64_w, i32_w]
        rfl
      refine pure_ (i := 12) (N := some 33) (v := ?_) (a' := ?_) #[true, true, true, true, false, true, true, true, false, false, false, true, true, false, false, false, false, false, false, false, false, false, false, false, false, false, false, false, false, false, false, false, false, false, false, false, false, false, false, false, false] rfl rfl (by kernel_rfl) (fun _ _ _ h => h) (Or.inl ⟨by rfl, ?_⟩) ?_ ?_
      rotate_left
      · intro w'
        go_simp
        with_reducible rfl
      rotate_left
      · simp only [Act.put, List.setIfInBounds_toArray, List.set_cons_zero, List.set_cons_succ, i64_w, i32_w]
        rfl
      refine pure_ (i := 13) (N := some 34) (v := ?_) (a' := ?_) #[true, true, true, true, false, true, true, true, false, false, false, true, true, true, false, false, false, false, false, false, false, false, false, false, false, false, false, false, false, false, false, false, false, false, false, false, false, false, false, false, false] rfl rfl (by kernel_rfl) (fun _ _ _ h => h) (Or.inl ⟨by rfl, ?_⟩) ?_ ?_
      rotate_left
      · intro w'
        go_simp
        with_reducible rfl
      rotate_left
      · simp only [Act.put, List.setIfInBounds_toArray, List.set_cons_zero, List.set_cons_succ, i64_w, i32_w]
        rfl
      refine pure_ (i := 17) (N := some 38) (v := ?_) (a' := ?_) #[true, true, true, true, false, true, true, true, false, false, false, true, true, true, false, false, false, true, false, false, false, false, false, false, false, false, false, false, false, false, false, false, false, false, false, false, false, false, false, false, false] rfl rfl (by kernel_rfl) (fun _ _ _ h => h) (Or.inl ⟨by rfl, ?_⟩) ?_ ?_
      rotate_left
      · intro w'
        go_simp
        with_reducible rfl
      rotate_left
      · simp only [Act.put, List.setIfInBounds_toArray, List.set_cons_zero, List.set_cons_succ, i64_w, i32_w]
        rfl
      refine pure_ (i := 18) (N := some 39) (v := ?_) (a' := ?_) #[true, true, true, true, false, true, true, true, false, false, false, true, true, true, false, false, false, true, true, false, false, false, false, false, false, false, false, false, false, false, false, false, false, false, false, false, false, false, false, false, false] rfl rfl (by kernel_rfl) (fun _ _ _ h => h) (Or.inl ⟨by rfl, ?_⟩) ?_ ?_
      rotate_left
      · intro w'
        go_simp
        with_reducible rfl
      rotate_left
      · simp only [Act.put, List.setIfInBounds_toArray, List.set_cons_zero, List.set_cons_succ, i64_w, i32_w]
        rfl
      refine pure_ (i := 19) (N := some 40) (v := ?_) (a' := ?_) #[true, true, true, true, false, true, true, true, false, false, false, true, true, true, false, false, false, true, true, true, false, false, false, false, false, false, false, false, false, false, false, false, false, false, false, false, false, false, false, false, false] rfl rfl (by kernel_rfl) (fun _ _ _ h => h) (Or.inl ⟨by rfl, ?_⟩) ?_ ?_
      rotate_left
      · intro w'
        go_simp
        with_reducible rfl
      rotate_left
      · simp only [Act.put, List.setIfInBounds_toArray, List.set_cons_zero, List.set_cons_succ, i64_w, i32_w]
        rfl
      refine pure_ (i := 23) (N := some 44) (v := ?_) (a' := ?_) #[true, true, true, true, false, true, true, true, false, false, false, true, true, true, false, false, false, true, true, true, false, false, false, true, false, false, false, false, false, false, false, false, false, false, false, false, false, false, false, false, false] rfl rfl (by kernel_rfl) (fun _ _ _ h => h) (Or.inl ⟨by rfl, ?_⟩) ?_ ?_
      rotate_left
      · intro w'
        go_simp
        with_reducible rfl
      rotate_left
      · simp only [Act.put, List.setIfInBounds_toArray, List.set_cons_zero, List.set_cons_succ, i64_w, i32_w]
        rfl
      refine pure_ (i := 24) (N := some 45) (v := ?_) (a' := ?_) #[true, true, true, true, false, true, true, true, false, false, false, true, true, true, false, false, false, true, true, true, false, false, false, true, true, false, false, false, false, false, false, false, false, false, false, false, false, false, false, false, false] rfl rfl (by kernel_rfl) (fun _ _ _ h => h) (Or.inl ⟨by rfl, ?_⟩) ?_ ?_
      rotate_left
      · intro w'
        go_simp
        with_reducible rfl
      rotate_left
      · simp only [Act.put, List.setIfInBounds_toArray, List.set_cons_zero, List.set_cons_succ, i64_w, i32_w]
        rfl
      refine pure_ (i := 25) (N := some 46) (v := ?_) (a' := ?_) #[true, true, true, true, false, true, true, true, false, false, false, true, true, true, false, false, false, true, true, true, false, false, false, true, true, true, false, false, false, false, false, false, false, false, false, false, false, false, false, false, false] rfl rfl (by kernel_rfl) (fun _ _ _ h => h) (Or.inl ⟨by rfl, ?_⟩) ?_ ?_
      rotate_left
      · intro w'
        go_simp
        with_reducible rfl
      rotate_left
      · simp only [Act.put, List.setIfInBounds_toArray, List.set_cons_zero, List.set_cons_succ, i64_w, i32_w]
        rfl
      refine pure_ (i := 29) (N := some 50) (v := ?_) (a' := ?_) #[true, true, true, true, false, true, true, true, false, false, false, true, true, true, false, false, false, true, true, true, false, false, false, true, true, true, false, false, false, true, false, false, false, false, false, false, false, false, false, false, false] rfl rfl (by kernel_rfl) (fun _ _ _ h => h) (Or.inl ⟨by rfl, ?_⟩) ?_ ?_
      rotate_left
      · intro w'
        go_simp
        with_reducible rfl
      rotate_left
      · simp only [Act.put, List.setIfInBounds_toArray, List.set_cons_zero, List.set_cons_succ, i64_w, i32_w]
        rfl
      refine pure_ (i := 30) (N := some 51) (v := ?_) (a' := ?_) #[true, true, true, true, false, true, true, true, false, false, false, true, true, true, false, false, false, true, true, true, false, false, false, true, true, true, false, false, false, true, true, false, false, false, false, false, false, false, false, false, false] rfl rfl (by kernel_rfl) (fun _ _ _ h => h) (Or.inl ⟨by rfl, ?_⟩) ?_ ?_
      rotate_left
      · intro w'
        go_simp
        with_reducible rfl
      rotate_left
      · simp only [Act.put, List.setIfInBounds_toArray, List.set_cons_zero, List.set_cons_succ, i64_w, i32_w]
        rfl
      refine pure_ (i := 31) (N := some 52) (v := ?_) (a' := ?_) #[true, true, true, true, false, true, true, true, false, false, false, true, true, true, false, false, false, true, true, true, false, false, false, true, true, true, false, false, false, true, true, true, false, false, false, false, false, false, false, false, false] rfl rfl (by kernel_rfl) (fun _ _ _ h => h) (Or.inl ⟨by rfl, ?_⟩) ?_ ?_
      rotate_left
      · intro w'
        go_simp
        with_reducible rfl
      rotate_left
      · simp only [Act.put, List.setIfInBounds_toArray, List.set_cons_zero, List.set_cons_succ, i64_w, i32_w]
        rfl
      refine take_ (i := 4) (N := some 25) (v := ?_) (a' := ?_) #[true, true, true, true, true, true, true, true, false, false, false, true, true, true, false, false, false, true, true, true, false, false, false, true, true, true, false, false, false, true, true, true, false, false, false, false, false, false, false, false, false] rfl rfl (by kernel_rfl) (fun _ _ _ h => h) (Or.inl ⟨by rfl, ?_⟩) hHeld ?_ ?_
      rotate_left
      · rintro w' ⟨s0, s1, s2, s3, s4, s5, s6⟩
        go_simp
        with_reducible rfl
      rotate_left
      · simp only [Act.put, List.setIfInBounds_toArray, List.set_cons_zero, List.set_cons_succ, i64_w, i32_w]
        rfl
      refine take_ (i := 8) (N := some 29) (v := ?_) (a' := ?_) #[true, true, true, true, true, true, true, true, true, false, false, true, true, true, false, false, false, true, true, true, false, false, false, true, true, true, false, false, false, true, true, true, false, false, false, false, false, false, false, false, false] rfl rfl (by kernel_rfl) (fun _ _ _ h => h) (Or.inl ⟨by rfl, ?_⟩) hHeld ?_ ?_
      rotate_left
      · rintro w' ⟨s0, s1, s2, s3, s4, s5, s6⟩
        go_simp
        with_reducible rfl
      rotate_left
      · simp only [Act.put, List.setIfInBounds_toArray, List.set_cons_zero, List.set_cons_succ, i64_w, i32_w]
        rfl
      refine pure_ (i := 9) (N := some 30) (v := ?_) (a' := ?_) #[true, true, true, true, true, true, true, true, true, true, false, true, true, true, false, false, false, true, true, true, false, false, false, true, true, true, false, false, false, true, true, true, false, false, false, false, false, false, false, false, false] rfl rfl (by kernel_rfl) (fun _ _ _ h => h) (Or.inl ⟨by rfl, ?_⟩) ?_ ?_
      rotate_left
      · intro w'
        go_simp
        with_reducible rfl
      rotate_left
      · simp only [Act.put, List.setIfInBounds_toArray, List.set_cons_zero, List.set_cons_succ, i64_w, i32_w]
        rfl
      refine take_ (i := 10) (N := some 31) (v := ?_) (a' := ?_) #[true, true, true, true, true, true, true, true, true, true, true, true, true, true, false, false, false, true, true, true, false, false, false, true, true, true, false, false, false, true, true, true, false, false, false, false, false, false, false, false, false] rfl rfl (by kernel_rfl) (fun _ _ _ h => h) (Or.inl ⟨by rfl, ?_⟩) hHeld ?_ ?_
      rotate_left
      · rintro w' ⟨s0, s1, s2, s3, s4, s5, s6⟩
        go_simp
        with_reducible rfl
      rotate_left
      · simp only [Act.put, List.setIfInBounds_toArray, List.set_cons_zero, List.set_cons_succ, i64_w, i32_w]
        rfl
      refine take_ (i := 14) (N := some 35) (v := ?_) (a' := ?_) #[true, true, true, true, true, true, true, true, true, true, true, true, true, true, true, false, false, true, true, true, false, false, false, true, true, true, false, false, false, true, true, true, false, false, false, false, false, false, false, false, false] rfl rfl (by kernel_rfl) (fun _ _ _ h => h) (Or.inl ⟨by rfl, ?_⟩) hHeld ?_ ?_
      rotate_left
      · rintro w' ⟨s0, s1, s2, s3, s4, s5, s6⟩
        go_simp
        with_reducible rfl
      rotate_left
      · simp only [Act.put, List.setIfInBounds_toArray, List.set_cons_zero, List.set_cons_succ, i64_w, i32_w]
        rfl
      refine pure_ (i := 15) (N := some 36) (v := ?_) (a' := ?_) #[true, true, true, true, true, true, true, true, true, true, true, true, true, true, true, true, false, true, true, true, false, false, false, true, true, true, false, false, false, true, true, true, false, false, false, false, false, false, false, false, false] rfl rfl (by kernel_rfl) (fun _ _ _ h => h) (Or.inl ⟨by rfl, ?_⟩) ?_ ?_
      rotate_left
      · intro w'
        go_simp
        with_reducible rfl
      rotate_left
      · simp only [Act.put, List.setIfInBounds_toArray, List.set_cons_zero, List.set_cons_succ, i64_w, i32_w]
        rfl
      refine take_ (i := 16) (N := some 37) (v := ?_) (a' := ?_) #[true, true, true, true, true, true, true, true, true, true, true, true, true, true, true, true, true, true, true, true, false, false, false, true, true, true, false, false, false, true, true, true, false, false, false, false, false, false, false, false, false] rfl rfl (by kernel_rfl) (fun _ _ _ h => h) (Or.inl ⟨by rfl, ?_⟩) hHeld ?_ ?_
      rotate_left
      · rintro w' ⟨s0, s1, s2, s3, s4, s5, s6⟩
        go_simp
        with_reducible rfl
      rotate_left
      · simp only [Act.put, List.setIfInBounds_toArray, List.set_cons_zero, List.set_cons_succ, i64_w, i32_w]
        rfl
      refine take_ (i := 20) (N := some 41) (v := ?_) (a' := ?_) #[true, true, true, true, true, true, true, true, true, true, true, true, true, true, true, true, true, true, true, true, true, false, false, true, true, true, false, false, false, true, true, true, false, false, false, false, false, false, false, false, false] rfl rfl (by kernel_rfl) (fun _ _ _ h => h) (Or.inl ⟨by rfl, ?_⟩) hHeld ?_ ?_
      rotate_left
      · rintro w' ⟨s0, s1, s2, s3, s4, s5, s6⟩
        go_simp
        with_reducible rfl
      rotate_left
      · simp only [Act.put, List.setIfInBounds_toArray, List.set_cons_zero, List.set_cons_succ, i64_w, i32_w]
        rfl
      refine pure_ (i := 21) (N := some 42) (v := ?_) (a' := ?_) #[true, true, true, true, true, true, true, true, true, true, true, true, true, true, true, true, true, true, true, true, true, true, false, true, true, true, false, false, false, true, true, true, false, false, false, false, false, false, false, false, false] rfl rfl (by kernel_rfl) (fun _ _ _ h => h) (Or.inl ⟨by rfl, ?_⟩) ?_ ?_
      rotate_left
      · intro w'
        go_simp
        with_reducible rfl
      rotate_left
      · simp only [Act.put, List.setIfInBounds_toArray, List.set_cons_zero, List.set_cons_succ, i64_w, i32_w]
        rfl
      refine take_ (i := 22) (N := some 43) (v := ?_) (a' := ?_) #[true, true, true, true, true, true, true, true, true, true, true, true, true, true, true, true, true, true, true, true, true, true, true, true, true, true, false, false, false, true, true, true, false, false, false, false, false, false, false, false, false] rfl rfl (by kernel_rfl) (fun _ _ _ h => h) (Or.inl ⟨by rfl, ?_⟩) hHeld ?_ ?_
      rotate_left
      · rintro w' ⟨s0, s1, s2, s3, s4, s5, s6⟩
        go_simp
        with_reducible rfl
      rotate_left
      · simp only [Act.put, List.setIfInBounds_toArray, List.set_cons_zero, List.set_cons_succ, i64_w, i32_w]
        rfl
      refine take_ (i := 26) (N := some 47) (v := ?_) (a' := ?_) #[true, true, true, true, true, true, true, true, true, true, true, true, true, true, true, true, true, true, true, true, true, true, true, true, true, true, true, false, false, true, true, true, false, false, false, false, false, false, false, false, false] rfl rfl (by kernel_rfl) (fun _ _ _ h => h) (Or.inl ⟨by rfl, ?_⟩) hHeld ?_ ?_
      rotate_left
      · rintro w' ⟨s0, s1, s2, s3, s4, s5, s6⟩
        go_simp
        with_reducible rfl
      rotate_left
      · simp only [Act.put, List.setIfInBounds_toArray, List.set_cons_zero, List.set_cons_succ, i64_w, i32_w]
        rfl
      refine pure_ (i := 27) (N := some 48) (v := ?_) (a' := ?_) #[true, true, true, true, true, true, true, true, true, true, true, true, true, true, true, true, true, true, true, true, true, true, true, true, true, true, true, true, false, true, true, true, false, false, false, false, false, false, false, false, false] rfl rfl (by kernel_rfl) (fun _ _ _ h => h) (Or.inl ⟨by rfl, ?_⟩) ?_ ?_
      rotate_left
      · intro w'
        go_simp
        with_reducible rfl
      rotate_left
      · simp only [Act.put, List.setIfInBounds_toArray, List.set_cons_zero, List.set_cons_succ, i64_w, i32_w]
        rfl
      refine take_ (i := 28) (N := some 49) (v := ?_) (a' := ?_) #[true, true, true, true, true, true, true, true, true, true, true, true, true, true, true, true, true, true, true, true, true, true, true, true, true, true, true, true, true, true, true, true, false, false, false, false, false, false, false, false, false] rfl rfl (by kernel_rfl) (fun _ _ _ h => h) (Or.inl ⟨by rfl, ?_⟩) hHeld ?_ ?_
      rotate_left
      · rintro w' ⟨s0, s1, s2, s3, s4, s5, s6⟩
        go_simp
        with_reducible rfl
      rotate_left
      · simp only [Act.put, List.setIfInBounds_toArray, List.set_cons_zero, List.set_cons_succ, i64_w, i32_w]
        rfl
      refine take_ (i := 32) (N := some 53) (v := ?_) (a' := ?_) #[true, true, true, true, true, true, true, true, true, true, true, true, true, true, true, true, true, true, true, true, true, true, true, true, true, true, true, true, true, true, true, true, true, false, false, false, false, false, false, false, false] rfl rfl (by kernel_rfl) (fun _ _ _ h => h) (Or.inl ⟨by rfl, ?_⟩) hHeld ?_ ?_
      rotate_left
      · rintro w' ⟨s0, s1, s2, s3, s4, s5, s6⟩
        go_simp
        with_reducible rfl
      rotate_left
      · simp only [Act.put, List.setIfInBounds_toArray, List.set_cons_zero, List.set_cons_succ, i64_w, i32_w]
        rfl
      refine pure_ (i := 33) (N := some 54) (v := ?_) (a' := ?_) #[true, true, true, true, true, true, true, true, true, true, true, true, true, true, true, true, true, true, true, true, true, true, true, true, true, true, true, true, true, true, true, true, true, true, false, false, false, false, false, false, false] rfl rfl (by kernel_rfl) (fun _ _ _ h => h) (Or.inl ⟨by rfl, ?_⟩) ?_ ?_
      rotate_left
      · intro w'
        go_simp
        with_reducible rfl
      rotate_left
      · simp only [Act.put, List.setIfInBounds_toArray, List.set_cons_zero, List.set_cons_succ, i64_w, i32_w]
        rfl
      refine take_ (i := 34) (N := some 55) (v := ?_) (a' := ?_) #[true, true, true, true, true, true, true, true, true, true, true, true, true, true, true, true, true, true, true, true, true, true, true, true, true, true, true, true, true, true, true, true, true, true, true, false, false, false, false, false, false] rfl rfl (by kernel_rfl) (fun _ _ _ h => h) (Or.inl ⟨by rfl, ?_⟩) hHeld ?_ ?_
      rotate_left
      · rintro w' ⟨s0, s1, s2, s3, s4, s5, s6⟩
        go_simp
        with_reducible rfl
      rotate_left
      · simp only [Act.put, List.setIfInBounds_toArray, List.set_cons_zero, List.set_cons_succ, i64_w, i32_w]
        rfl
      refine pure_ (i := 35) (N := some 56) (v := ?_) (a' := ?_) #[true, true, true, true, true, true, true, true, true, true, true, true, true, true, true, true, true, true, true, true, true, true, true, true, true, true, true, true, true, true, true, true, true, true, true, true, false, false, false, false, false] rfl rfl (by kernel_rfl) (fun _ _ _ h => h) (Or.inl ⟨by rfl, ?_⟩) ?_ ?_
      rotate_left
      · intro w'
        go_simp
        with_reducible rfl
      rotate_left
      · simp only [Act.put, List.setIfInBounds_toArray, List.set_cons_zero, List.set_cons_succ, i64_w, i32_w]
        rfl
      refine one_ (i := 36) (N := some 57) #[true, true, true, true, true, true, true, true, true, true, true, true, true, true, true, true, true, true, true, true, true, true, true, true, true, true, true, true, true, true, true, true, true, true, true, true, true, false, false, false, false] rfl rfl (by kernel_rfl) (by decide) (fun K hK => ?_)
      refine value_ (w1 := ?_) (v := ?_) (by rfl) rfl ?_ ?_
      rotate_left 2
      · go_simp
        constructor
        · rfl
        · rfl
      refine hK.out _ _ ⟨cell_alloc (w := wr.drew) hc _, cell_alloc (w := wr.drew) hv _, cell_alloc (w := wr.drew) p0 _, cell_alloc (w := wr.drew) p1 _, cell_alloc (w := wr.drew) p2 _, cell_alloc (w := wr.drew) p3 _, cell_alloc (w := wr.drew) p4 _⟩ (fun hHeld => ?_)
      clear hK K
      refine norm_ (a' := ?_) ?_ ?_
      rotate_left
      · show Act.put _ (some 57) _ = _
        simp only [Act.put, List.setIfInBounds_toArray, List.set_cons_zero, List.set_cons_succ, i64_w, i32_w]
        rfl
      refine one_ (i := 37) (N := some 58) #[true, true, true, true, true, true, true, true, true, true, true, true, true, true, true, true, true, true, true, true, true, true, true, true, true, true, true, true, true, true, true, true, true, true, true, true, true, true, false, false, false] rfl rfl (by kernel_rfl) (by decide) (fun K hK => ?_)
      refine step_append_lies _ (by rfl) _ _ _ (by rfl) w.heap.size 45 i0 _ 5 40 (by kernel_rfl) hi0 hz0 hz1 hz2 rfl (by omega) v done.length (legsC done) (by rfl) ((hown.drew).alloc _)
        ⟨wr.heap.size, 0, none⟩ 1 1 [.int .i64 f, .int .i64 t, .int .i64 a', .int .i64 q', .int .i64 m] (by rfl) (by rfl) (World.news_of_block (cs := #[.int .i64 f, .int .i64 t, .int .i64 a', .int .i64 q', .int .i64 m]) (t := 45) (fr := (0, 0)) (heap_alloc_new wr.drew _)) (by simp [Value.oneCell'])
        (by omega) hmax hby (by simp; omega) (wr.heap.size + 1) (by simp) ?_
      intro gg cap wa hown1 hgrow hat hlt
      have hva : wa.cell? ⟨go, 6, none⟩ = some v := (hgrow.cell_far ⟨go, 6, none⟩ (by simp; omega) (Ne.symm ao)).trans (cell_alloc (w := wr.drew) hv _)
      have hfz6 : wa.frozen? ⟨go, 6, none⟩ = false := (hgrow.frozen_far ⟨go, 6, none⟩ (by simp; omega) (Ne.symm ao)).trans (hfa _)
      refine hK.out _ _ ⟨(hgrow.cell_far ⟨gr, 0, none⟩ (by simp; omega) (Ne.symm ag)).trans (cell_alloc (w := wr.drew) hc _), (hgrow.cell_far ⟨go, 6, none⟩ (by simp; omega) (Ne.symm ao)).trans (cell_alloc (w := wr.drew) hv _), (hgrow.cell_far ad (by simp; omega) (Ne.symm aa)).trans (cell_alloc (w := wr.drew) p0 _), (hgrow.cell_far ⟨ad.block, ad.off + 1, none⟩ (by simp; omega) (Ne.symm aa)).trans (cell_alloc (w := wr.drew) p1 _), (hgrow.cell_far ⟨ad.block, ad.off + 2, none⟩ (by simp; omega) (Ne.symm aa)).trans (cell_alloc (w := wr.drew) p2 _), (hgrow.cell_far ⟨ad.block, ad.off + 3, none⟩ (by simp; omega) (Ne.symm aa)).trans (cell_alloc (w := wr.drew) p3 _), (hgrow.cell_far ⟨ad.block, ad.off + 4, none⟩ (by simp; omega) (Ne.symm aa)).trans (cell_alloc (w := wr.drew) p4 _)⟩ (fun hHeld => ?_)
      clear hK K
      refine norm_ (a' := ?_) ?_ ?_
      rotate_left
      · show Act.put _ (some 58) _ = _
        simp only [Act.put, List.setIfInBounds_toArray, List.set_cons_zero, List.set_cons_succ, i64_w, i32_w]
        rfl
      refine pure_ (i := 38) (N := some 59) (v := ?_) (a' := ?_) #[true, true, true, true, true, true, true, true, true, true, true, true, true, true, true, true, true, true, true, true, true, true, true, true, true, true, true, true, true, true, true, true, true, true, true, true, true, true, true, false, false] rfl rfl (by kernel_rfl) (fun _ _ _ h => h) (Or.inl ⟨by rfl, ?_⟩) ?_ ?_
      rotate_left
      · intro w'
        go_simp
        with_reducible rfl
      rotate_left
      · simp only [Act.put, List.setIfInBounds_toArray, List.set_cons_zero, List.set_cons_succ, i64_w, i32_w]
        rfl
      refine pure_ (i := 39) (N := some 60) (v := ?_) (a' := ?_) #[true, true, true, true, true, true, true, true, true, true, true, true, true, true, true, true, true, true, true, true, true, true, true, true, true, true, true, true, true, true, true, true, true, true, true, true, true, true, true, true, false] rfl rfl (by kernel_rfl) (fun _ _ _ h => h) (Or.inl ⟨by rfl, ?_⟩) ?_ ?_
      rotate_left
      · intro w'
        go_simp
        with_reducible rfl
      rotate_left
      · simp only [Act.put, List.setIfInBounds_toArray, List.set_cons_zero, List.set_cons_succ, i64_w, i32_w]
        rfl
      refine last_ (i := 40) (N := none) #[true, true, true, true, true, true, true, true, true, true, true, true, true, true, true, true, true, true, true, true, true, true, true, true, true, true, true, true, true, true, true, true, true, true, true, true, true, true, true, true, true] rfl rfl (by kernel_rfl) (by decide) (fun K hK => ?_)
      refine skip_ (w1 := ?_) (by rfl) rfl ?_ ?_
      rotate_left
      · go_simp
        rfl
      refine hK.out _ _ ?_
      clear hK K
      refine done_ (by kernel_rfl) ?_
      obtain ⟨W2, hW2⟩ : ∃ W2, wa.setCell ⟨go, 6, none⟩ (.slice (some ⟨gg, 0, none⟩) (done.length + 1) cap) = W2 := ⟨_, rfl⟩
      have hbase : ∀ k, v.ownBlock = some k → w.heap.size ≤ k := fun k hk => own_base hown hk
      have hgb : Blk wa go 33 (opCs c0 a b q n x v P) := ((HK.out.drew).alloc _).grown hgrow (Ne.symm ao)
      have hrb : Blk wa gr 89 #[.slice (some ad) (r.length + 5) c] := ((HB.out.drew).alloc _).grown hgrow (Ne.symm ag)
      have hra : Reads wa B 1 (some ad) (r.length + 5) (intsC ([f, t, a', q', m] ++ r)) := ((HR.out.drew).alloc (by simp; omega) _).grown hgrow (by simp; omega) (fun k hk => by have := hbase k hk; omega)
      have hta : Two w wa gr go := ((Two.alloc (w1 := wr.drew) ⟨htw.os, htw.tape, htw.output, htw.size, htw.block⟩ _)).grown hgrow hbase
      have hgb2 : Blk W2 go 33 (opCs c0 a b q n x (.slice (some ⟨gg, 0, none⟩) (done.length + 1) cap) P) := by rw [← hW2]; exact hgb.set_ 6 _
      have hrb2 : Blk W2 gr 89 #[.slice (some ad) (r.length + 5) c] := by rw [← hW2]; exact hrb.far (Ne.symm hne) _
      have hra2 : Reads W2 B 1 (some ad) (r.length + 5) (intsC ([f, t, a', q', m] ++ r)) := by rw [← hW2]; exact hra.setCell hB2 _
      have hta2 : Two w W2 gr go := by rw [← hW2]; exact hta.set_ (.inr (.inl rfl)) _
      have how2 : W2.ownsRow w.heap.size 45 5 (.slice (some ⟨gg, 0, none⟩) (done.length + 1) cap) (done.length + 1) (legsC done ++ [.int .i64 f, .int .i64 t, .int .i64 a', .int .i64 q', .int .i64 m]) := by
        rw [← hW2]; exact ownsRow_setCell_below hown1 (by show go < _; omega) _
      rw [hW2]
      have H1 := Lib.hid hgb2
      have H2 := Lib.hid hrb2
      have H3 := Lib.hid hra2
      have H4 := Lib.hid hta2
      have H5 := Lib.hid how2
      have hc2 : W2.cell? ⟨gr, 0, none⟩ = some (.slice (some ad) (r.length + 5) c) := hrb2.cell 0
      have hf2 : W2.frozen? ⟨gr, 0, none⟩ = false := hrb2.frozen 0
      clear hW2 hgb hrb hra hta hgb2 hrb2 hra2 hta2 how2 hown1 hgrow hat hlt hva hfz6 hfa hc hv hvf hfz p0 p1 p2 p3 p4
      have b5 : (5 : Int) ≤ (r.length : Int) + 5 := by omega
      by_cases hc5 : c = 5
      · go_wp2
        have hr3 : RowAt (W2.setCell ⟨gr, 0, none⟩ (.slice (some ad) r.length 0)) gr B r := by
          have h := RowAt.cut (k := 5) (xs := [f, t, a', q', m]) H2.out hcap H3.out rfl hB
          simpa [hc5, Addr.add] using h
        go_roundg r.length
        case measure => have h := HGK.out; simp only [List.length_cons] at h; omega
        case rel =>
          refine ⟨done ++ [⟨f, t, a', q', m⟩], r, _, rfl, ?_, ?_, hr3, H4.out.set_ (.inl rfl) _, ?_, H1.out.far hne _⟩
          · rw [List.length_append, List.length_singleton]; omega
          · rw [← HPS.out]; simp only [legs5, Option.map_map]; congr 1; funext l; simp
          · have e1 : (done ++ [(⟨f, t, a', q', m⟩ : Leg)]).length = done.length + 1 := by simp
            have e2 : legsC (done ++ [(⟨f, t, a', q', m⟩ : Leg)]) = legsC done ++ [.int .i64 f, .int .i64 t, .int .i64 a', .int .i64 q', .int .i64 m] := by simp [legsC, Leg.cs]
            rw [e1, e2]
            exact ownsRow_setCell_below H5.out (by show gr < _; omega) _
      · go_wp2
        have hr3 : RowAt (W2.setCell ⟨gr, 0, none⟩ (.slice (some ⟨ad.block, ad.off + 5, none⟩) r.length (c - 5))) gr B r := by
          have h := RowAt.cut (k := 5) (xs := [f, t, a', q', m]) H2.out hcap H3.out rfl hB
          simpa [hc5, Addr.add] using h
        go_roundg r.length
        case measure => have h := HGK.out; simp only [List.length_cons] at h; omega
        case rel =>
          refine ⟨done ++ [⟨f, t, a', q', m⟩], r, _, rfl, ?_, ?_, hr3, H4.out.set_ (.inl rfl) _, ?_, H1.out.far hne _⟩
          · rw [List.length_append, List.length_singleton]; omega
          · rw [← HPS.out]; simp only [legs5, Option.map_map]; congr 1; funext l; simp
          · have e1 : (done ++ [(⟨f, t, a', q', m⟩ : Leg)]).length = done.length + 1 := by simp
            have e2 : legsC (done ++ [(⟨f, t, a', q', m⟩ : Leg)]) = legsC done ++ [.int .i64 f, .int .i64 t, .int .i64 a', .int .i64 q', .int .i64 m] := by simp [legsC, Leg.cs]
            rw [e1, e2]
            exact ownsRow_setCell_below H5.out (by show gr < _; omega) _
end Go.Proofs.YtmdkcggmnejkoaaDoor
