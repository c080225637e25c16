/- balance.Check, Total, Marked, Cover, begin by contracts. -/
import Derived.Test.YtcgcgekefhhjhaaDoorRefuse14
import Derived.IntWalk
namespace Go.Proofs.YtcgcgekefhhjhaaDoor
set_option linter.unusedSimpArgs false
set_option linter.unusedVariables false
open Go.RowKit

theorem refuse_calls (b : Int × Option Int) (v : Value) (B : Nat) (w : World) (hG : HG w) (hb : b.1 ≠ 0) (hv : MidE w B b v) :
    Calls Tryd.prog 40 #[v] w fun e w' => e = .returned (.tuple #[zeroP, outV b]) ∧ Below w.heap.size w w' := by
  rcases hv with ⟨h, _⟩ | ⟨_, h2, rfl⟩ | ⟨_, pl, h2, g, hg, rfl, hw⟩
  · exact absurd h hb
  · have : outV b = refusedV b.1 := by unfold outV; rw [if_neg hb, h2]
    rw [this]
    exact refuse_e_calls b.1 w hG
  · have : outV b = faultV b.1 0 pl := by unfold outV; rw [if_neg hb, h2]
    rw [this]
    exact refuse_w_calls b.1 pl g w hG hw
/-- What total tells, as an error of a call. -/
def chk (a : Int) (l : List Mk) : Int × Option Int := ((posCheck a l).1, if (posCheck a l).1 = 0 then none else some (posCheck a l).2)
theorem InE.mid {W : World} {B : Nat} {a : Int} {l : List Mk} {v : Value} (h : InE W B (posCheck a l) v) : MidE W B (chk a l) v := by
  rcases h with ⟨h, rfl⟩ | ⟨h, g, hg, rfl, hb⟩
  · exact .inl ⟨h, rfl⟩
  · exact .inr (.inr ⟨h, _, if_neg h, g, hg, rfl, hb⟩)
theorem MidE.below {W W' : World} {B : Nat} {b : Int × Option Int} {v : Value} (h : MidE W B b v) (hb : Below W.heap.size W W') : MidE W' B b v := by
  rcases h with h | h | ⟨h, pl, h2, g, hg, hv, hw⟩
  · exact .inl h
  · exact .inr (.inl h)
  · exact .inr (.inr ⟨h, pl, h2, g, hg, hv, hw.below hb hw.lt⟩)
theorem MidE.mono_b {W : World} {B C : Nat} {b : Int × Option Int} {v : Value} (h : MidE W B b v) (hb : C ≤ B) : MidE W C b v := by
  rcases h with h | h | ⟨h, pl, h2, g, hg, hv, hw⟩
  · exact .inl h
  · exact .inr (.inl h)
  · exact .inr (.inr ⟨h, pl, h2, g, Nat.le_trans hb hg, hv, hw⟩)
/-- Where a right position's search ends. -/
theorem PlaceOf.all {a : Int} {l : List Mk} (hr : Right a l) {n : Int} {i : Nat} (h : PlaceOf l n i) : (∀ k (hk : k < l.length), k < i → l[k].m < n) ∧ (∀ k (hk : k < l.length), i ≤ k → n ≤ l[k].m) := by
  have hlt : ∀ i j (hi : i < l.length) (hj : j < l.length), i < j → l[i].m < l[j].m := List.pairwise_iff_getElem.1 hr.up
  refine ⟨fun k hk hki => ?_, fun k hk hki => ?_⟩
  · have h1 := h.lo (by have := h.le; omega) (by omega)
    rcases Nat.lt_or_ge k (i - 1) with h2 | h2
    · have := hlt k (i - 1) hk (by have := h.le; omega) h2; omega
    · obtain rfl : k = i - 1 := by omega
      exact h1
  · have h1 := h.hi (by omega)
    rcases Nat.lt_or_ge i k with h2 | h2
    · have := hlt i k (by omega) hk h2; omega
    · obtain rfl : k = i := by omega
      exact h1
theorem place_found {a : Int} {l : List Mk} (hr : Right a l) {n : Int} {i : Nat} (h : PlaceOf l n i) : (isAt l n i = false → getQ l n = 0) ∧ (isAt l n i = true → ∃ hi : i < l.length, l[i].q = getQ l n) := by
  obtain ⟨h1, h2⟩ := h.all hr
  obtain ⟨f1, f2⟩ := found_iff n hr.up hr.q h.le h1 h2
  refine ⟨fun hf => ?_, fun hf => ?_⟩
  · have : ¬ ((l[i]?).map (·.m) = some n) := by simpa [isAt] using hf
    exact Classical.not_not.1 fun hz => this (f1.2 hz)
  · have h3 : (l[i]?).map (·.m) = some n := by simpa [isAt] using hf
    have h4 := f2 h3
    rcases Nat.lt_or_ge i l.length with hi | hi
    · exact ⟨hi, by simpa [hi] using h4⟩
    · simp [List.getElem?_eq_none hi] at h3
/-- What a position's calls ask of it. -/
structure PosOK (w : World) (B : Nat) (a : Int) (l : List Mk) (A : Option Addr) : Prop where
  r : Reads w B 2 A l.length (marksC l)
  a1 : a ≤ 9223372036854775807
  q1 : ∀ x ∈ l, x.q ≤ 9223372036854775807
  len : l.length * 16 ≤ 140737488351232
theorem PosOK.below {w w' : World} {B : Nat} {a : Int} {l : List Mk} {A : Option Addr} (h : PosOK w B a l A) (hb : Below B w w') : PosOK w' B a l A := ⟨h.r.below hb, h.a1, h.q1, h.len⟩

set_option maxRecDepth 100000 in
set_option maxHeartbeats 4000000 in
theorem check_calls (a : Int) (l : List Mk) (A : Option Addr) (c B : Nat) (w : World) (h : PosOK w B a l A) (hB : B ≤ w.heap.size) (hG : HG w) :
    Calls Tryd.prog 16 #[.agg #[.int .i64 a, .slice A l.length c]] w fun e w' => e = .returned (outV (chk a l)) ∧ Below w.heap.size w w' := by
  obtain ⟨gp, hgp⟩ : ∃ g, w.heap.size = g := ⟨_, rfl⟩
  obtain ⟨W1, hW1⟩ : ∃ W, w.alloc (.cells #[.int .i64 a, .slice A l.length c] 24) = W := ⟨_, rfl⟩
  have hb1 : Below w.heap.size w W1 := hW1 ▸ (Below.refl _ _).alloc (Nat.le_refl _) _
  have hp : Blk W1 gp 24 #[.int .i64 a, .slice A l.length c] := by rw [← hW1]; exact blkNew hgp
  have H := Lib.hid (h.below (hb1.mono hB))
  have HG1 := Lib.hid (hG.below hb1)
  have HBB : Hid (B ≤ W1.heap.size) := Lib.hid (Nat.le_trans hB hb1.size)
  have HB1 := Lib.hid hb1
  have HP := Lib.hid hp
  have p0 : W1.cell? ⟨gp, 0, none⟩ = some (.int .i64 a) := hp.cell 0
  have p1 : W1.cell? ⟨gp, 1, none⟩ = some (.slice A l.length c) := hp.cell 1
  clear h hb1 hp hB hG
  go_enter Tryd.func16, Tryd.ntmps16
  go_wp2_with (fail)
  refine (total_calls a l A c B W1 H.out.r HBB.out H.out.a1 H.out.q1 H.out.len).mono ?_
  rintro e w2 ⟨hb2, v, rfl, hv⟩
  have HB2 := Lib.hid (HB1.out.trans (hb2.mono HB1.out.size))
  have H2 := Lib.hid (H.out.below (hb2.mono HBB.out))
  have hp2 := HP.out.below hb2 HP.out.lt
  have HP2 := Lib.hid hp2
  have HBB2 := Lib.hid (Nat.le_trans HBB.out hb2.size)
  have q0 : w2.cell? ⟨gp, 0, none⟩ = some (.int .i64 a) := hp2.cell 0
  have q1 : w2.cell? ⟨gp, 1, none⟩ = some (.slice A l.length c) := hp2.cell 1
  have HM := Lib.hid hv.mid
  have HG2 := Lib.hid (HG1.out.below hb2)
  clear hb2 hp2 p0 p1 hW1
  rcases hv with ⟨h0, rfl⟩ | ⟨h0, g, hg, rfl, hw⟩
  · have HZ := Lib.hid h0
    clear h0
    go_wp2_with (fail)
    go_ret
    exact ⟨by unfold outV chk; rw [if_pos HZ.out]; rfl, HB2.out⟩
  · have HZ := Lib.hid h0
    clear hw h0
    go_wp2_with (go_at_call 40; refine (refuse_calls _ _ _ w2 HG2.out HZ.out (HM.out.mono_b (Nat.le_refl _))).mono ?_; rintro e w3 ⟨rfl, hb3⟩)
    go_ret
    exact ⟨rfl, HB2.out.trans (hb3.mono HB2.out.size)⟩

set_option maxRecDepth 100000 in
set_option maxHeartbeats 4000000 in
theorem totalX_calls (a : Int) (l : List Mk) (A : Option Addr) (c B : Nat) (w : World) (h : PosOK w B a l A) (hB : B ≤ w.heap.size) :
    Calls Tryd.prog 18 #[.agg #[.int .i64 a, .slice A l.length c]] w fun e w' => e = .returned (.int .i64 (totalS a l)) ∧ Below w.heap.size w w' := by
  obtain ⟨gp, hgp⟩ : ∃ g, w.heap.size = g := ⟨_, rfl⟩
  obtain ⟨W1, hW1⟩ : ∃ W, w.alloc (.cells #[.int .i64 a, .slice A l.length c] 24) = W := ⟨_, rfl⟩
  have hb1 : Below w.heap.size w W1 := hW1 ▸ (Below.refl _ _).alloc (Nat.le_refl _) _
  have hp : Blk W1 gp 24 #[.int .i64 a, .slice A l.length c] := by rw [← hW1]; exact blkNew hgp
  have H := Lib.hid (h.below (hb1.mono hB))
  have HBB : Hid (B ≤ W1.heap.size) := Lib.hid (Nat.le_trans hB hb1.size)
  have HB1 := Lib.hid hb1
  have HP := Lib.hid hp
  have p0 : W1.cell? ⟨gp, 0, none⟩ = some (.int .i64 a) := hp.cell 0
  have p1 : W1.cell? ⟨gp, 1, none⟩ = some (.slice A l.length c) := hp.cell 1
  clear h hb1 hp hB
  go_enter Tryd.func18, Tryd.ntmps18
  go_wp2_with (fail)
  refine (total_calls a l A c B W1 H.out.r HBB.out H.out.a1 H.out.q1 H.out.len).mono ?_
  rintro e w2 ⟨hb2, v, rfl, hv⟩
  have HB2 := Lib.hid (HB1.out.trans (hb2.mono HB1.out.size))
  have H2 := Lib.hid (H.out.below (hb2.mono HBB.out))
  have hp2 := HP.out.below hb2 HP.out.lt
  have HP2 := Lib.hid hp2
  have HBB2 := Lib.hid (Nat.le_trans HBB.out hb2.size)
  have q0 : w2.cell? ⟨gp, 0, none⟩ = some (.int .i64 a) := hp2.cell 0
  have q1 : w2.cell? ⟨gp, 1, none⟩ = some (.slice A l.length c) := hp2.cell 1
  clear hv hb2 hp2 p0 p1 hW1
  go_wp2
  go_ret
  exact ⟨rfl, HB2.out⟩

set_option maxRecDepth 100000 in
set_option maxHeartbeats 4000000 in
theorem marked_calls (a : Int) (l : List Mk) (A : Option Addr) (c B : Nat) (n : Int) (w : World) (h : PosOK w B a l A) (hB : B ≤ w.heap.size) :
    Calls Tryd.prog 20 #[.agg #[.int .i64 a, .slice A l.length c], .int .i64 n] w fun e w' => e = .returned (.int .i64 (markedS a l n)) ∧ Below w.heap.size w w' := by
  obtain ⟨gp, hgp⟩ : ∃ g, w.heap.size = g := ⟨_, rfl⟩
  obtain ⟨W1, hW1⟩ : ∃ W, w.alloc (.cells #[.int .i64 a, .slice A l.length c] 24) = W := ⟨_, rfl⟩
  have hb1 : Below w.heap.size w W1 := hW1 ▸ (Below.refl _ _).alloc (Nat.le_refl _) _
  have hp : Blk W1 gp 24 #[.int .i64 a, .slice A l.length c] := by rw [← hW1]; exact blkNew hgp
  have H := Lib.hid (h.below (hb1.mono hB))
  have HBB : Hid (B ≤ W1.heap.size) := Lib.hid (Nat.le_trans hB hb1.size)
  have HB1 := Lib.hid hb1
  have HP := Lib.hid hp
  have p0 : W1.cell? ⟨gp, 0, none⟩ = some (.int .i64 a) := hp.cell 0
  have p1 : W1.cell? ⟨gp, 1, none⟩ = some (.slice A l.length c) := hp.cell 1
  clear h hb1 hp hB
  go_enter Tryd.func20, Tryd.ntmps20
  go_wp2_with (fail)
  refine (total_calls a l A c B W1 H.out.r HBB.out H.out.a1 H.out.q1 H.out.len).mono ?_
  rintro e w2 ⟨hb2, v, rfl, hv⟩
  have HB2 := Lib.hid (HB1.out.trans (hb2.mono HB1.out.size))
  have H2 := Lib.hid (H.out.below (hb2.mono HBB.out))
  have hp2 := HP.out.below hb2 HP.out.lt
  have HP2 := Lib.hid hp2
  have HBB2 := Lib.hid (Nat.le_trans HBB.out hb2.size)
  have q0 : w2.cell? ⟨gp, 0, none⟩ = some (.int .i64 a) := hp2.cell 0
  have q1 : w2.cell? ⟨gp, 1, none⟩ = some (.slice A l.length c) := hp2.cell 1
  clear hb2 hp2 p0 p1 hW1
  rcases hv with ⟨h0, rfl⟩ | ⟨h0, g, hg, rfl, hw⟩
  · have hr := right_of_check H.out.a1 h0
    have HMS := Lib.hid (show markedS a l n = getQ l n from right_marked hr n)
    have HR := Lib.hid hr
    clear hr h0
    go_wp2_with (fail)
    refine (find_calls a l A c B n w2 H2.out.r HBB2.out (by have := H2.out.len; omega)).mono ?_
    rintro e w3 ⟨hb3, i, hp, rfl⟩
    have hp3 := HP2.out.below hb3 HP2.out.lt
    have HB3 := Lib.hid (HB2.out.trans (hb3.mono HB2.out.size))
    have r0 : w3.cell? ⟨gp, 0, none⟩ = some (.int .i64 a) := hp3.cell 0
    have r1 : w3.cell? ⟨gp, 1, none⟩ = some (.slice A l.length c) := hp3.cell 1
    obtain ⟨f1, f2⟩ := place_found HR.out hp
    have F1 := Lib.hid f1
    have F2 := Lib.hid f2
    have H3 := Lib.hid (H2.out.below (hb3.mono HBB2.out))
    clear hb3 hp3 q0 q1 f1 f2
    by_cases hi : isAt l n i = true
    · rw [hi]
      obtain ⟨hil, hq⟩ := F2.out hi
      obtain ⟨ad, rfl, hadb, e0, e1⟩ := marks_at H3.out.r hil
      rw [hq] at e1
      have hil' : (i : Int) < l.length := by omega
      clear hi hq e0
      go_wp2_with (fail)
      go_ret
      exact ⟨by rw [HMS.out]; rfl, HB3.out⟩
    · have hi' : isAt l n i = false := by simpa using hi
      rw [hi']
      have hz := F1.out hi'
      have HZ := Lib.hid hz
      clear hi hi' hz
      go_wp2_with (fail)
      go_ret
      exact ⟨by rw [HMS.out, HZ.out]; rfl, HB3.out⟩
  · have HMS := Lib.hid (show markedS a l n = 0 by unfold markedS; rw [if_neg h0])
    clear hw h0
    go_wp2_with (fail)
    go_ret
    exact ⟨by rw [HMS.out]; rfl, HB2.out⟩

set_option maxRecDepth 100000 in
set_option maxHeartbeats 4000000 in
theorem cover_calls (a : Int) (l : List Mk) (A : Option Addr) (c B : Nat) (n : Int) (w : World) (h : PosOK w B a l A) (hB : B ≤ w.heap.size) :
    Calls Tryd.prog 22 #[.agg #[.int .i64 a, .slice A l.length c], .int .i64 n] w fun e w' => e = .returned (.int .i64 (coverS a l n)) ∧ Below w.heap.size w w' := by
  obtain ⟨gp, hgp⟩ : ∃ g, w.heap.size = g := ⟨_, rfl⟩
  obtain ⟨W1, hW1⟩ : ∃ W, w.alloc (.cells #[.int .i64 a, .slice A l.length c] 24) = W := ⟨_, rfl⟩
  have hb1 : Below w.heap.size w W1 := hW1 ▸ (Below.refl _ _).alloc (Nat.le_refl _) _
  have hp : Blk W1 gp 24 #[.int .i64 a, .slice A l.length c] := by rw [← hW1]; exact blkNew hgp
  have H := Lib.hid (h.below (hb1.mono hB))
  have HBB : Hid (B ≤ W1.heap.size) := Lib.hid (Nat.le_trans hB hb1.size)
  have HB1 := Lib.hid hb1
  have HP := Lib.hid hp
  have p0 : W1.cell? ⟨gp, 0, none⟩ = some (.int .i64 a) := hp.cell 0
  have p1 : W1.cell? ⟨gp, 1, none⟩ = some (.slice A l.length c) := hp.cell 1
  clear h hb1 hp hB
  go_enter Tryd.func22, Tryd.ntmps22
  go_wp2_with (fail)
  refine (total_calls a l A c B W1 H.out.r HBB.out H.out.a1 H.out.q1 H.out.len).mono ?_
  rintro e w2 ⟨hb2, v, rfl, hv⟩
  have HB2 := Lib.hid (HB1.out.trans (hb2.mono HB1.out.size))
  have H2 := Lib.hid (H.out.below (hb2.mono HBB.out))
  have hp2 := HP.out.below hb2 HP.out.lt
  have HP2 := Lib.hid hp2
  have HBB2 := Lib.hid (Nat.le_trans HBB.out hb2.size)
  have q0 : w2.cell? ⟨gp, 0, none⟩ = some (.int .i64 a) := hp2.cell 0
  have q1 : w2.cell? ⟨gp, 1, none⟩ = some (.slice A l.length c) := hp2.cell 1
  clear hb2 hp2 p0 p1 hW1
  rcases hv with ⟨h0, rfl⟩ | ⟨h0, g, hg, rfl, hw⟩
  · have hr := right_of_check H.out.a1 h0
    have HCS := Lib.hid (show coverS a l n = a + getQ l n from right_cover hr n)
    have HMS := Lib.hid (show markedS a l n = getQ l n from right_marked hr n)
    have h1 := hr.a0
    have h2 := hr.sum
    have h3 := getQ_nonneg hr.q n
    have h4 := getQ_le hr.q n
    unfold MaxA at h2
    have h5 : a + getQ l n ≤ 9223372036854775807 := by omega
    have h6 : 0 ≤ a + getQ l n := by omega
    obtain ⟨WD, hWD⟩ : ∃ W, w2.drew = W := ⟨_, rfl⟩
    have HWD := Lib.hid hWD
    have HD := Lib.hid (hWD ▸ H2.out.below (Below.refl B w2).drew)
    have HPD := Lib.hid (hWD ▸ HP2.out.drew)
    have HBD := Lib.hid (hWD ▸ HB2.out.drew)
    have HBBD : Hid (B ≤ WD.heap.size) := Lib.hid (hWD ▸ HBB2.out)
    obtain ⟨gq, hgq⟩ : ∃ gq, getQ l n = gq := ⟨_, rfl⟩
    rw [hgq] at h3 h5 h6 HCS HMS
    have hwr : IntKind.i64.wrap (a + gq) = a + gq := IntWalk.i64_in _ (by omega)
    have HWR := Lib.hid hwr
    clear hr h0 h2 h4 hgq hWD
    go_upto_region 4 with fail
    go_region_held3 (fun w' => w'.cell? ⟨gp, 0, none⟩ = some (.int .i64 a) ∧ w'.cell? ⟨gp, 1, none⟩ = some (.slice A l.length c)) (first | go_keep | fail)
      (first | (go_at_call 20; rw [HWD.out]; refine (marked_calls a l A c B n WD HD.out HBBD.out).mono ?_; rintro e w3 ⟨rfl, hb3⟩; rw [HMS.out]; have hp3 := HPD.out.below hb3 HPD.out.lt; have r0 : w3.cell? ⟨gp, 0, none⟩ = some (.int .i64 a) := hp3.cell 0; have r1 : w3.cell? ⟨gp, 1, none⟩ = some (.slice A l.length c) := hp3.cell 1; have HB3 := Lib.hid (HBD.out.trans (hb3.mono HBD.out.size)); clear hp3 hb3))
    go_wp2
    go_ret
    exact ⟨by rw [HCS.out]; rfl, HB3.out⟩
  · have HMS := Lib.hid (show coverS a l n = 0 by unfold coverS; rw [if_neg h0])
    clear hw h0
    go_wp2_with (fail)
    go_ret
    exact ⟨by rw [HMS.out]; rfl, HB2.out⟩

def BegTo (w : World) (a : Int) (l : List Mk) (q n least : Int) (e : Ending) (w' : World) : Prop :=
  Below w.heap.size w w' ∧ ∃ v, e = .returned (.tuple #[.int .i64 (if (beginS a l q n least).1 = 0 then totalS a l else 0), v]) ∧ MidE w' w.heap.size (beginS a l q n least) v
set_option maxRecDepth 100000 in
set_option maxHeartbeats 4000000 in
theorem begin_calls (a : Int) (l : List Mk) (A : Option Addr) (c B : Nat) (q n least : Int) (w : World) (h : PosOK w B a l A) (hB : B ≤ w.heap.size) :
    Calls Tryd.prog 44 #[.agg #[.int .i64 a, .slice A l.length c], .int .i64 q, .int .i64 n, .int .i64 least] w (BegTo w a l q n least) := by
  obtain ⟨gp, hgp⟩ : ∃ g, w.heap.size = g := ⟨_, rfl⟩
  obtain ⟨W1, hW1⟩ : ∃ W, w.alloc (.cells #[.int .i64 a, .slice A l.length c] 24) = W := ⟨_, rfl⟩
  have hb1 : Below w.heap.size w W1 := hW1 ▸ (Below.refl _ _).alloc (Nat.le_refl _) _
  have hp : Blk W1 gp 24 #[.int .i64 a, .slice A l.length c] := by rw [← hW1]; exact blkNew hgp
  have H := Lib.hid (h.below (hb1.mono hB))
  have HBB : Hid (B ≤ W1.heap.size) := Lib.hid (Nat.le_trans hB hb1.size)
  have HB1 := Lib.hid hb1
  have HP := Lib.hid hp
  have p0 : W1.cell? ⟨gp, 0, none⟩ = some (.int .i64 a) := hp.cell 0
  have p1 : W1.cell? ⟨gp, 1, none⟩ = some (.slice A l.length c) := hp.cell 1
  clear h hb1 hp hB
  go_enter Tryd.func44, Tryd.ntmps44
  go_wp2_with (fail)
  refine (total_calls a l A c B W1 H.out.r HBB.out H.out.a1 H.out.q1 H.out.len).mono ?_
  rintro e w2 ⟨hb2, v, rfl, hv⟩
  have HB2 := Lib.hid (HB1.out.trans (hb2.mono HB1.out.size))
  have H2 := Lib.hid (H.out.below (hb2.mono HBB.out))
  have hp2 := HP.out.below hb2 HP.out.lt
  have HP2 := Lib.hid hp2
  have HBB2 := Lib.hid (Nat.le_trans HBB.out hb2.size)
  have q0 : w2.cell? ⟨gp, 0, none⟩ = some (.int .i64 a) := hp2.cell 0
  have q1 : w2.cell? ⟨gp, 1, none⟩ = some (.slice A l.length c) := hp2.cell 1
  have HM := Lib.hid (hv.mid.mono_b HB1.out.size)
  clear hb2 hp2 p0 p1 hW1
  rcases hv with ⟨h0, rfl⟩ | ⟨h0, g, hg, rfl, hw⟩
  · by_cases hq : q < 1
    · have hb : beginS a l q n least = (16, none) := by unfold beginS; rw [if_pos h0, if_pos hq]
      have HBS := Lib.hid hb
      clear hb h0
      go_wp2_with (fail)
      go_ret2
      exact ⟨HB2.out, _, by rw [HBS.out]; rfl, .inr (.inl (by rw [HBS.out]; exact ⟨by decide, rfl, rfl⟩))⟩
    · by_cases hn : n < least
      · have hb : beginS a l q n least = (19, none) := by unfold beginS; rw [if_pos h0, if_neg hq, if_pos (.inl hn)]
        have HBS := Lib.hid hb
        clear hb h0
        go_wp2_with (fail)
        go_ret2
        exact ⟨HB2.out, _, by rw [HBS.out]; rfl, .inr (.inl (by rw [HBS.out]; exact ⟨by decide, rfl, rfl⟩))⟩
      · by_cases hn2 : 65536 < n
        · have hb : beginS a l q n least = (19, none) := by unfold beginS; rw [if_pos h0, if_neg hq, if_pos (.inr hn2)]
          have HBS := Lib.hid hb
          clear hb h0
          go_wp2_with (fail)
          go_ret2
          exact ⟨HB2.out, _, by rw [HBS.out]; rfl, .inr (.inl (by rw [HBS.out]; exact ⟨by decide, rfl, rfl⟩))⟩
        · have hb : beginS a l q n least = (0, none) := by unfold beginS; rw [if_pos h0, if_neg hq, if_neg (by omega)]
          have HBS := Lib.hid hb
          clear hb h0
          go_wp2_with (fail)
          go_ret2
          exact ⟨HB2.out, _, by rw [HBS.out]; rfl, .inl (by rw [HBS.out]; exact ⟨rfl, rfl⟩)⟩
  · have hb : beginS a l q n least = chk a l := by unfold beginS chk; rw [if_neg h0, if_neg h0]
    have HBS := Lib.hid hb
    have HZ := Lib.hid h0
    clear hb hw h0
    go_wp2_with (fail)
    go_ret2
    exact ⟨HB2.out, _, by rw [HBS.out, if_neg (show ¬ (chk a l).1 = 0 from HZ.out)]; rfl, by rw [HBS.out]; exact HM.out⟩
end Go.Proofs.YtcgcgekefhhjhaaDoor
