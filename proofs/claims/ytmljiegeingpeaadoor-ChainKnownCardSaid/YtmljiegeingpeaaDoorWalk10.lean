/- custodyref10's Done and Walk, custodylaw10's laid by contracts. -/
import Derived.Test.YtmljiegeingpeaaDoorWide
import Derived.Test.YtmljiegeingpeaaDoorRef10c
namespace Go.Proofs.YtmljiegeingpeaaDoor
set_option linter.unusedSimpArgs false
set_option linter.unusedVariables false
open Go.RowKit

theorem own_grown {W W' : World} {base : Nat} {e : TypeId} {size n : Nat} {v : Value} {xs : List Value} {row : Option Nat} (h : W.ownsRow base e size v n xs) (hg : W.grownBy W' row) (hr : ∀ b, v.ownBlock = some b → row ≠ some b) : W'.ownsRow base e size v n xs := by
  refine h.kept hg ?_
  rcases h.2 with h0 | ⟨g, cap, cur, rfl, h1, h2, h3⟩
  · rw [h0.1]; exact .inl rfl
  · exact .inr fun he => hr g rfl he.symm
theorem rowR_of {w : World} {B k : Nat} {v : Value} {O : List VerS} (h : w.ownsRow B 72 2 v k (versC O)) (hk : O.length = k) : RowR w v O := by subst hk; exact own_base0 h

set_option maxRecDepth 100000 in
set_option maxHeartbeats 4000000 in
theorem done_calls (l : List VerS) (hu : UpV l) (sv : Value) (a : ActS) (w : World) (h : RowR w sv l) (hlen : l.length < 9382499223000) :
    Calls Tryd.prog 65 #[sv, .agg #[.bool a.pr, .int .i64 a.n, .string a.v]] w fun e w' => ∃ v', e = .returned v' ∧ RowR w' v' (doneL l a) ∧ Below w.heap.size w w' ∧ (∀ b, v'.ownBlock = some b → sv.ownBlock = some b ∨ w.heap.size ≤ b) := by
  obtain ⟨pr, n, v, hwf⟩ := a
  obtain ⟨A, c, rfl⟩ := own_slice h
  obtain ⟨ga, hga⟩ : ∃ g, w.heap.size = g := ⟨_, rfl⟩
  cases pr with
  | true =>
    obtain ⟨W1, hW1⟩ : ∃ X, w.alloc (.cells #[.bool true, .int .i64 n, .string v] 30) = X := ⟨_, rfl⟩
    have hb1 : Below w.heap.size w W1 := hW1 ▸ (Below.refl _ _).alloc (Nat.le_refl _) _
    have hv : Blk W1 ga 30 #[.bool true, .int .i64 n, .string v] := by rw [← hW1]; exact hga ▸ Blk.new _ _ _
    have v0 : W1.cell? ⟨ga, 0, none⟩ = some (.bool true) := hv.cell 0
    have v1 : W1.cell? ⟨ga, 1, none⟩ = some (.int .i64 n) := hv.cell 1
    have H := Lib.hid (rowR_below h hb1)
    have HB := Lib.hid hb1
    clear h hb1 hv
    go_enter Tryd.func65, Tryd.ntmps65
    go_wp2_with (fail)
    refine (rprune2_calls l hu _ n W1 H.out (by omega)).mono ?_
    rintro e w2 ⟨v', rfl, hr2, hb2, hat⟩
    obtain ⟨A2, c2, rfl⟩ := own_slice hr2
    have H2 := Lib.hid hr2
    have HB2 := Lib.hid (HB.out.trans (hb2.mono HB.out.size))
    clear v0 v1 hr2 hb2
    go_wp2
    go_ret
    exact ⟨_, rfl, H2.out, by first | exact HB2.out | exact hga ▸ HB2.out, fun b hb => (hat b hb).imp id (fun h => by have := HB.out.size; omega)⟩
  | false =>
    obtain ⟨W1, hW1⟩ : ∃ X, w.alloc (.cells #[.bool false, .int .i64 n, .string v] 30) = X := ⟨_, rfl⟩
    have hb1 : Below w.heap.size w W1 := hW1 ▸ (Below.refl _ _).alloc (Nat.le_refl _) _
    have hv : Blk W1 ga 30 #[.bool false, .int .i64 n, .string v] := by rw [← hW1]; exact hga ▸ Blk.new _ _ _
    have v0 : W1.cell? ⟨ga, 0, none⟩ = some (.bool false) := hv.cell 0
    have v1 : W1.cell? ⟨ga, 1, none⟩ = some (.int .i64 n) := hv.cell 1
    have v2 : W1.cell? ⟨ga, 2, none⟩ = some (.string v) := hv.cell 2
    have H := Lib.hid (rowR_below h hb1)
    have HB := Lib.hid hb1
    clear h hb1 hv
    go_enter Tryd.func65, Tryd.ntmps65
    go_wp2_with (fail)
    refine (rput2_calls l hu _ n v W1 H.out hlen).mono ?_
    rintro e w2 ⟨v', rfl, hr2, hb2, hat⟩
    obtain ⟨A2, c2, rfl⟩ := own_slice hr2
    have H2 := Lib.hid hr2
    have HB2 := Lib.hid (HB.out.trans (hb2.mono HB.out.size))
    clear v0 v1 v2 hr2 hb2
    go_wp2
    go_ret
    exact ⟨_, rfl, H2.out, by first | exact HB2.out | exact hga ▸ HB2.out, fun b hb => (hat b hb).imp id (fun h => by have := HB.out.size; omega)⟩

/-- A walk's steps: what it has given, and the chain then. -/
def wkStep (acts : List ActS) (s : List VerS × List VerS) : List VerS × List VerS :=
  match s.2[leN s.2 (lastNo s.1)]? with
  | none => s
  | some x => (s.1 ++ [x], match acts[s.1.length]? with | some a => doneL s.2 a | none => s.2)
def wkAt (L : List VerS) (acts : List ActS) : Nat → List VerS × List VerS
  | 0 => ([], L)
  | i + 1 => wkStep acts (wkAt L acts i)
/-- Does the walk end at step i? -/
def wkEnd (L : List VerS) (acts : List ActS) (stop : Int) (i : Nat) : Bool :=
  decide (leN (wkAt L acts i).2 (lastNo (wkAt L acts i).1) = (wkAt L acts i).2.length) || (decide (0 < i) && decide ((i : Int) = stop))
section
variable {L : List VerS} {acts : List ActS} {stop : Int}
theorem wk_up (h : UpV L) (i : Nat) : UpV (wkAt L acts i).2 := by
  induction i with
  | zero => exact h
  | succ i ih =>
    unfold wkAt wkStep
    split
    · exact ih
    · dsimp only
      split
      · exact ih.done _
      · exact ih
theorem wk_max (h : MaxV L) (i : Nat) : MaxV (wkAt L acts i).2 := by
  induction i with
  | zero => exact h
  | succ i ih =>
    unfold wkAt wkStep
    split
    · exact ih
    · dsimp only
      split
      · exact ih.done _
      · exact ih
theorem wk_len (i : Nat) : (wkAt L acts i).2.length ≤ L.length + acts.length ∧ (wkAt L acts i).2.length ≤ L.length + i := by
  have key : ∀ i, (wkAt L acts i).1.length ≤ i ∧ (wkAt L acts i).2.length ≤ L.length + min (wkAt L acts i).1.length acts.length := by
    intro i
    induction i with
    | zero => exact ⟨Nat.le_refl _, by simp [wkAt]⟩
    | succ i ih =>
      unfold wkAt wkStep
      split
      · exact ⟨by omega, ih.2⟩
      · dsimp only
        rw [List.length_append]
        split
        · rename_i a ha
          have hlt := (List.getElem?_eq_some_iff.1 ha).1
          have := doneL_len (wkAt L acts i).2 a
          simp only [List.length_cons, List.length_nil]
          omega
        · simp only [List.length_cons, List.length_nil]
          omega
  have := key i
  omega
end

section
variable {L : List VerS} {acts : List ActS} {stop : Int}
theorem wk_next {k : Nat} (h : leN (wkAt L acts k).2 (lastNo (wkAt L acts k).1) < (wkAt L acts k).2.length) :
    wkAt L acts (k + 1) = ((wkAt L acts k).1 ++ [nextV (wkAt L acts k).2 (lastNo (wkAt L acts k).1)], match acts[(wkAt L acts k).1.length]? with | some a => doneL (wkAt L acts k).2 a | none => (wkAt L acts k).2) := by
  have e : wkAt L acts (k + 1) = wkStep acts (wkAt L acts k) := rfl
  rw [e]
  unfold wkStep nextV
  rw [List.getElem?_eq_getElem h]
  rfl
theorem leN_next {M : List VerS} (hu : UpV M) {n : Int} (h : leN M n < M.length) : leN M (nextV M n).n = leN M n + 1 := by
  have e : nextV M n = M[leN M n] := by unfold nextV; rw [List.getElem?_eq_getElem h]; rfl
  have hh := leN_last hu (k := leN M n + 1) (by omega)
  rw [List.take_succ_eq_append_getElem h, lastNo_snoc] at hh
  rw [e]
  exact hh
end

theorem filt_two (p : VerS → Bool) : ∀ L : List VerS, (L.filter p).length + (L.filter (fun x => !p x)).length = L.length := by
  intro L
  induction L with
  | nil => rfl
  | cons x xs ih =>
    cases h : p x
    · rw [List.filter_cons_of_neg (by simp [h]), List.filter_cons_of_pos (by simp [h])]; simp only [List.length_cons]; omega
    · rw [List.filter_cons_of_pos h, List.filter_cons_of_neg (by simp [h])]; simp only [List.length_cons]; omega
/-- How many versions are above n. -/
theorem gt_filter (L : List VerS) (n : Int) : L.length - leN L n = (L.filter (fun x => !decide (x.n ≤ n))).length := by
  unfold leN
  exact (Nat.sub_eq_of_eq_add (by rw [Nat.add_comm]; exact (filt_two (fun x => decide (x.n ≤ n)) L).symm))
theorem gt_done (L : List VerS) (a : ActS) (n : Int) : (doneL L a).length - leN (doneL L a) n ≤ L.length - leN L n + 1 := by
  rw [gt_filter, gt_filter]
  unfold doneL pruneL putL
  split
  · split
    · omega
    · have := ((List.drop_sublist (leN L a.n - 1) L).filter (fun x => !decide (x.n ≤ n))).length_le
      omega
  · split
    · rw [List.filter_append, List.length_append]
      have := List.length_filter_le (fun x : VerS => !decide (x.n ≤ n)) [⟨a.n, a.v⟩]
      simp only [List.length_cons, List.length_nil] at this
      omega
    · omega
/-- A walk has given k; what it has given and what is left are no more than what was there and what was put. -/
theorem wk_bound {L : List VerS} {acts : List ActS} (hu : UpV L) : ∀ k, (∀ j, j < k → leN (wkAt L acts j).2 (lastNo (wkAt L acts j).1) < (wkAt L acts j).2.length) →
    (wkAt L acts k).1.length = k ∧ k + ((wkAt L acts k).2.length - leN (wkAt L acts k).2 (lastNo (wkAt L acts k).1)) ≤ L.length + min k acts.length := by
  intro k
  induction k with
  | zero => intro _; exact ⟨rfl, by simp [wkAt]⟩
  | succ k ih =>
    intro h
    obtain ⟨h1, h2⟩ := ih (fun j hj => h j (by omega))
    have h3 := h k (by omega)
    have h4 := leN_next (wk_up (acts := acts) hu k) h3
    have hle := leN_le (wkAt L acts k).2 (lastNo (wkAt L acts k).1)
    rw [wk_next h3]
    refine ⟨by simp [h1], ?_⟩
    dsimp only
    rw [lastNo_snoc, h1]
    rcases Nat.lt_or_ge k acts.length with h5 | h5
    · rw [List.getElem?_eq_getElem h5]
      dsimp only
      have := gt_done (wkAt L acts k).2 acts[k] (nextV (wkAt L acts k).2 (lastNo (wkAt L acts k).1)).n
      omega
    · rw [List.getElem?_eq_none h5]
      dsimp only
      omega

/-- What a walk answers: the first end. -/
def WalkTo (w : World) (L : List VerS) (acts : List ActS) (stop : Int) (e : Ending) (w' : World) : Prop :=
  Below w.heap.size w w' ∧ ∃ k ov rv, e = .returned (.tuple #[ov, rv]) ∧ RowR w' ov (wkAt L acts k).1 ∧ RowR w' rv (wkAt L acts k).2 ∧ (wkAt L acts k).1.length = k ∧ wkEnd L acts stop k = true ∧ ∀ j, j < k → wkEnd L acts stop j = false

set_option maxRecDepth 100000 in
set_option maxHeartbeats 4000000 in
theorem walk_calls (L : List VerS) (hu : UpV L) (sv : Value) (acts : List ActS) (AA : Option Addr) (ac B : Nat) (stop : Int) (w : World) (h : RowR w sv L) (hr : Reads w B 3 AA acts.length (actsC acts)) (hB : B ≤ w.heap.size) (hl1 : L.length + acts.length < 9382499223000) :
    Calls Tryd.prog 53 #[sv, .slice AA acts.length ac, .int .i64 stop] w (WalkTo w L acts stop) := by
  obtain ⟨i0, hi0, hz0, hz1, hz2⟩ := info_parts infoVersR
  obtain ⟨RA, rc, rfl⟩ := own_slice h
  have HR := Lib.hid h
  have HA := Lib.hid hr
  clear h hr
  go_enter Tryd.func53, Tryd.ntmps53
  go_wp2_with (fail)
  go_loopw [0, 8, 9, 10] (fun rv ov la i wr => ∃ k : Nat, i = .int .i64 k ∧ la = .int .i64 (lastNo (wkAt L acts k).1) ∧ RowR wr rv (wkAt L acts k).2 ∧ wr.ownsRow w.heap.size 72 2 ov k (versC (wkAt L acts k).1) ∧ (wkAt L acts k).1.length = k ∧ k ≤ leN (wkAt L acts k).2 (lastNo (wkAt L acts k).1) + acts.length ∧ (∀ j, j < k → wkEnd L acts stop j = false) ∧ (0 < k → (k : Int) ≠ stop) ∧ (∀ b, ov.ownBlock = some b → rv.ownBlock ≠ some b) ∧ Below w.heap.size w wr) (fun _ _ _ i _ => L.length + acts.length + acts.length + 1 - (intOf i).toNat)
  case atStart => exact ⟨0, rfl, rfl, HR.out, World.ownsRow_nil _ _ _ _, rfl, Nat.zero_le _, fun j hj => by omega, fun hj => by omega, fun b hb => (by cases hb), Below.refl _ _⟩
  case round =>
    obtain ⟨k, rfl, rfl, hR, hO, hk1, hk2, hk3, hk4, hap, hb⟩ := hrel
    have HAP := Lib.hid hap
    clear hap
    have hup := wk_up (acts := acts) hu k
    have hln := wk_len (L := L) (acts := acts) k
    have hle := leN_le (wkAt L acts k).2 (lastNo (wkAt L acts k).1)
    have hpot := (wk_bound hu (acts := acts) k (fun j hj => by
      have h1 := hk3 j hj
      unfold wkEnd at h1
      have h2 := leN_le (wkAt L acts j).2 (lastNo (wkAt L acts j).1)
      simp at h1
      omega)).2
    have HNX := Lib.hid (wk_next (L := L) (acts := acts) (k := k))
    have HLN := Lib.hid (fun h => leN_next (M := (wkAt L acts k).2) hup (n := lastNo (wkAt L acts k).1) h)
    have HED : Hid (wkEnd L acts stop k = (decide (leN (wkAt L acts k).2 (lastNo (wkAt L acts k).1) = (wkAt L acts k).2.length) || (decide (0 < k) && decide ((k : Int) = stop)))) := rfl
    have HWK : Hid (∀ M O, wkAt L acts k = (O, M) → (wkAt L acts k).1 = O ∧ (wkAt L acts k).2 = M) := fun M O e => by rw [e]; exact ⟨rfl, rfl⟩
    obtain ⟨O, hOe⟩ : ∃ x, (wkAt L acts k).1 = x := ⟨_, rfl⟩
    obtain ⟨M, hMe⟩ : ∃ x, (wkAt L acts k).2 = x := ⟨_, rfl⟩
    rw [hOe, hMe] at HNX HLN HED
    rw [hMe] at hR hup hln hle hk2 hpot
    rw [hOe] at hO hk1 hk2 hle hpot ⊢
    obtain ⟨MA, mc, rfl⟩ := own_slice hR
    obtain ⟨OA, oc, rfl⟩ := own_slice hO
    have HOE := Lib.hid hOe
    have HME := Lib.hid hMe
    have HRR := Lib.hid hR
    have HOO := Lib.hid hO
    have HB := Lib.hid hb
    have HK3 := Lib.hid hk3
    have HK4 := Lib.hid hk4
    have HK1 := Lib.hid hk1
    have HK2 := Lib.hid hk2
    have HLE := Lib.hid hle
    have HUP := Lib.hid hup
    clear hOe hMe hR hO hb hk3 hk4 hk1 HWK hup
    have hki : (k : Int) ≤ ((M.length : Int) + (acts.length : Int)) := by omega
    have hml : M.length ≤ 9382499223000 := by omega
    have hkb : k + 1 ≤ 9382499223000 := by omega
    clear hpot
    have hw1 : IntKind.i64.wrap ((M.length : Int) + (acts.length : Int)) = (M.length : Int) + (acts.length : Int) := IntWalk.i64_in _ (by omega)
    clear hk2 hle
    go_wp2_with (fail)
    obtain ⟨la, hla⟩ : ∃ x, lastNo O = x := ⟨_, rfl⟩
    have HLA := Lib.hid hla
    refine (next_calls M HUP.out MA mc wr.heap.size (lastNo O) wr (Reads.of_own HRR.out) (Nat.le_refl _) hml).mono ?_
    rintro e w1 ⟨rfl, hb1⟩
    obtain ⟨y, hy⟩ : ∃ y, nextV M (lastNo O) = y := ⟨_, rfl⟩
    rw [hy]
    have HY := Lib.hid hy
    obtain ⟨gy, hgy⟩ : ∃ g, w1.heap.size = g := ⟨_, rfl⟩
    obtain ⟨W2, hW2⟩ : ∃ X, w1.alloc (.cells #[.int .i64 y.n, .string y.v] 72) = X := ⟨_, rfl⟩
    have hb2 : Below w1.heap.size w1 W2 := hW2 ▸ (Below.refl _ _).alloc (Nat.le_refl _) _
    have hv : Blk W2 gy 72 #[.int .i64 y.n, .string y.v] := by rw [← hW2]; exact hgy ▸ Blk.new _ _ _
    have hb12 := hb1.trans (hb2.mono hb1.size)
    have HS1 := Lib.hid hb1.size
    have v0 : W2.cell? ⟨gy, 0, none⟩ = some (.int .i64 y.n) := hv.cell 0
    have v1 : W2.cell? ⟨gy, 1, none⟩ = some (.string y.v) := hv.cell 1
    have HV := Lib.hid hv
    have HR2 := Lib.hid (rowR_below HRR.out hb12)
    have HO2 := Lib.hid (own_below HOO.out hb12)
    have HB2 := Lib.hid (HB.out.trans (hb12.mono HB.out.size))
    clear hb1 hb2 hb12 hv hy hla
    by_cases hE : leN M (lastNo O) < M.length
    · have hd : decide (leN M (lastNo O) < M.length) = true := by simpa using hE
      rw [hd]
      have HDE := Lib.hid hE
      clear hd
      have hgn : ∀ b, (Value.slice OA k oc).ownBlock = some b → b < gy := fun b hb => by
        have h1 := own_lt HOO.out hb
        have h2 := HB2.out.size
        rw [← hgy]
        exact Nat.lt_of_lt_of_le h1 HS1.out
      have HGN := Lib.hid hgn
      have hrn : ∀ b, (Value.slice MA M.length mc).ownBlock = some b → b < W2.heap.size := fun b hb => own_lt HR2.out hb
      have HRN := Lib.hid hrn
      clear hgn hrn
      by_cases hA : k < acts.length
      · have hai : (k : Int) < (acts.length : Int) := by omega
        obtain ⟨ad, rfl, hadb, a0, a1, a2⟩ := acts_at HA.out hA
        have hne : wkAt L acts (k + 1) = (O ++ [y], doneL M acts[k]) := by
          rw [HNX.out HDE.out, HK1.out, List.getElem?_eq_getElem hA, HY.out]
        have HAA := Lib.hid hA
        generalize acts[k] = a at hne a0 a1 a2
        have HNE := Lib.hid hne
        clear hne hadb hA
        have hke : wkEnd L acts stop k = false := by
          rw [HED.out]
          have h1 := HDE.out
          have h2 := HK4.out
          simp
          exact ⟨by omega, fun h => h2 h⟩
        have HKE := Lib.hid hke
        clear hke
        go_wp2_with (first | (at_builtin; refine wpList_append_wide_at _ rfl (.tmp 32) (.tmp 34) 46 rfl w.heap.size 72 i0 _ 2 24 Tryd.underlying46 hi0 hz0 hz1 hz2 rfl (by decide) (.slice OA k oc) k (versC O) rfl (HO2.out.alloc _) ⟨W2.heap.size, 0, none⟩ 1 1 [.int .i64 y.n, .string y.v] rfl rfl ?_ ?_ ?_ ?_ ?_ ?_; exact new_cells W2 72 [.int .i64 y.n, .string y.v]; (simp [Value.oneCell']); (unfold maxLen; omega); (omega); (have := HB2.out.size; simp; omega); intro vq w3 hown3 hg3 _ hat3; obtain ⟨NA, nc, rfl⟩ := own_slice hown3; have hv3 : Blk w3 gy 72 #[.int .i64 y.n, .string y.v] := (HV.out.alloc _).grown hg3 (fun he => by have := HGN.out gy he.symm; omega); have x0 : w3.cell? ⟨gy, 0, none⟩ = some (.int .i64 y.n) := hv3.cell 0; have HR3 := Lib.hid (own_grown (HR2.out.alloc _) hg3 (fun b hb he => HAP.out b he hb)); have HB3 := Lib.hid ((HB2.out.alloc HB2.out.size _).grown hg3 (by have := HB2.out.size; simp; omega) (fun b hb => own_base HO2.out hb)); have HO3 := Lib.hid hown3; have c0 := cell_below HB3.out a0; have c1 := cell_below HB3.out a1; have c2 := cell_below HB3.out a2; clear v0 v1))
        have hap3 : ∀ b, (Value.slice NA (k + 1) nc).ownBlock = some b → (Value.slice MA M.length mc).ownBlock ≠ some b := fun b hb he => by
          rcases hat3 with h1 | h1
          · exact HAP.out b (h1 ▸ hb) he
          · have h2 := HRN.out b he
            rw [h1] at hb
            simp at hb
            omega
        have HAP3 := Lib.hid hap3
        have hlo : lastNo (O ++ [y]) = y.n := lastNo_snoc _ _
        have hov : w3.ownsRow w.heap.size 72 2 (.slice NA (k + 1) nc) (k + 1) (versC (O ++ [y])) := by
          have := HO3.out
          rw [versC, flat_snoc]
          exact this
        have HOV := Lib.hid hov
        have hle2 := HLN.out HDE.out
        rw [HY.out, HLA.out] at hle2
        have HL2 := Lib.hid hle2
        have HK13 := Lib.hid (show (O ++ [y]).length = k + 1 by rw [List.length_append]; have := HK1.out; simp; omega)
        clear hap3 hov hle2 hat3 hlo x0

        refine (done_calls M HUP.out (.slice MA M.length mc) a w3 HR3.out (by omega)).mono ?_
        rintro e w4 ⟨rv4, rfl, hr4, hb4, hat4⟩
        have HKL : Hid (k + 1 ≤ leN (doneL M a) (lastNo (O ++ [y])) + acts.length) := (by have := HAA.out; omega : k + 1 ≤ _)
        have HAP4 : Hid (∀ b, (Value.slice NA (k + 1) nc).ownBlock = some b → rv4.ownBlock ≠ some b) := fun b hb he => by
          rcases hat4 b he with h1 | h1
          · exact HAP3.out b hb h1
          · have := own_lt HOV.out hb
            omega
        have HOV4 := Lib.hid (own_below HOV.out hb4)
        have HB4 := Lib.hid (HB3.out.trans (hb4.mono HB3.out.size))
        have HR4 := Lib.hid hr4
        obtain ⟨NA4, nc4, rfl⟩ := own_slice hr4
        clear hat4 hr4 hb4 c0 c1 c2
        by_cases hS : ((k : Int) + 1) = stop
        {
          have hSb : decide (((k : Int) + 1) = stop) = true := by simpa using hS
          have hw5 : IntKind.i64.wrap ((k : Int) + 1) = (k : Int) + 1 := IntWalk.i64_in _ (by omega)
          have hcast : (((k + 1 : Nat)) : Int) = (k : Int) + 1 := by omega
          subst hS
          go_wp2_with (fail)
          go_ret2
          exact ⟨HB4.out, k + 1, _, _, rfl, by rw [HNE.out]; exact rowR_of HOV4.out HK13.out, by rw [HNE.out]; exact HR4.out, by rw [HNE.out]; exact HK13.out, by unfold wkEnd; simp, fun j hj => by
            rcases Nat.lt_or_ge j k with h1 | h1
            · exact HK3.out j h1
            · obtain rfl : j = k := by omega
              exact HKE.out⟩
        }
        have hSn : ¬ (((k + 1 : Nat)) : Int) = stop := by omega
        have HSN := Lib.hid hSn
        have hSn2 : ¬ ((k : Int) + 1) = stop := hS
        go_wp2_with (fail)
        go_roundw
        case rel =>
          exact ⟨k + 1, by go_num, by rw [HNE.out, lastNo_snoc], by rw [HNE.out]; exact HR4.out, by rw [HNE.out]; exact HOV4.out, by rw [HNE.out]; exact HK13.out, by rw [HNE.out]; exact HKL.out, fun j hj => by
            rcases Nat.lt_or_ge j k with h1 | h1
            · exact HK3.out j h1
            · obtain rfl : j = k := by omega
              exact HKE.out, fun _ => HSN.out, HAP4.out, HB4.out⟩
        case measure => simp [intOf]; omega
      · have hai : (acts.length : Int) ≤ (k : Int) := by omega
        have hne : wkAt L acts (k + 1) = (O ++ [y], M) := by
          rw [HNX.out HDE.out, HK1.out, List.getElem?_eq_none (by omega), HY.out]
        have HNE := Lib.hid hne
        clear hne hA
        have hke : wkEnd L acts stop k = false := by
          rw [HED.out]
          have h1 := HDE.out
          have h2 := HK4.out
          simp
          exact ⟨by omega, fun h => h2 h⟩
        have HKE := Lib.hid hke
        clear hke
        by_cases hS : ((k : Int) + 1) = stop
        · skip
          have hSb : decide (((k : Int) + 1) = stop) = true := by simpa using hS
          have hw5 : IntKind.i64.wrap ((k : Int) + 1) = (k : Int) + 1 := IntWalk.i64_in _ (by omega)
          have hcast : (((k + 1 : Nat)) : Int) = (k : Int) + 1 := by omega
          subst hS
          go_wp2_with (first | (at_builtin; refine wpList_append_wide_at _ rfl (.tmp 32) (.tmp 34) 46 rfl w.heap.size 72 i0 _ 2 24 Tryd.underlying46 hi0 hz0 hz1 hz2 rfl (by decide) (.slice OA k oc) k (versC O) rfl (HO2.out.alloc _) ⟨W2.heap.size, 0, none⟩ 1 1 [.int .i64 y.n, .string y.v] rfl rfl ?_ ?_ ?_ ?_ ?_ ?_; exact new_cells W2 72 [.int .i64 y.n, .string y.v]; (simp [Value.oneCell']); (unfold maxLen; omega); (omega); (have := HB2.out.size; simp; omega); intro vq w3 hown3 hg3 _ hat3; obtain ⟨NA, nc, rfl⟩ := own_slice hown3; have hv3 : Blk w3 gy 72 #[.int .i64 y.n, .string y.v] := (HV.out.alloc _).grown hg3 (fun he => by have := HGN.out gy he.symm; omega); have x0 : w3.cell? ⟨gy, 0, none⟩ = some (.int .i64 y.n) := hv3.cell 0; have HR3 := Lib.hid (own_grown (HR2.out.alloc _) hg3 (fun b hb he => HAP.out b he hb)); have HB3 := Lib.hid ((HB2.out.alloc HB2.out.size _).grown hg3 (by have := HB2.out.size; simp; omega) (fun b hb => own_base HO2.out hb)); have HO3 := Lib.hid hown3; clear v0 v1))
          have hap3 : ∀ b, (Value.slice NA (k + 1) nc).ownBlock = some b → (Value.slice MA M.length mc).ownBlock ≠ some b := fun b hb he => by
            rcases hat3 with h1 | h1
            · exact HAP.out b (h1 ▸ hb) he
            · have h2 := HRN.out b he
              rw [h1] at hb
              simp at hb
              omega
          have HAP3 := Lib.hid hap3
          have hlo : lastNo (O ++ [y]) = y.n := lastNo_snoc _ _
          have hov : w3.ownsRow w.heap.size 72 2 (.slice NA (k + 1) nc) (k + 1) (versC (O ++ [y])) := by
            have := HO3.out
            rw [versC, flat_snoc]
            exact this
          have HOV := Lib.hid hov
          have hle2 := HLN.out HDE.out
          rw [HY.out, HLA.out] at hle2
          have HL2 := Lib.hid hle2
          have HK13 := Lib.hid (show (O ++ [y]).length = k + 1 by rw [List.length_append]; have := HK1.out; simp; omega)
          clear hap3 hov hle2 hat3 hlo x0

          have HKL : Hid (k + 1 ≤ leN M (lastNo (O ++ [y])) + acts.length) := (by rw [lastNo_snoc, HL2.out, ← HLA.out]; have := HK2.out; omega : k + 1 ≤ _)
          go_ret2
          exact ⟨HB3.out, k + 1, _, _, rfl, by rw [HNE.out]; exact rowR_of HOV.out HK13.out, by rw [HNE.out]; exact HR3.out, by rw [HNE.out]; exact HK13.out, by unfold wkEnd; simp, fun j hj => by
            rcases Nat.lt_or_ge j k with h1 | h1
            · exact HK3.out j h1
            · obtain rfl : j = k := by omega
              exact HKE.out⟩
        · skip
          have hSn : ¬ (((k + 1 : Nat)) : Int) = stop := by omega
          have HSN := Lib.hid hSn
          have hSn2 : ¬ ((k : Int) + 1) = stop := hS
          go_wp2_with (first | (at_builtin; refine wpList_append_wide_at _ rfl (.tmp 32) (.tmp 34) 46 rfl w.heap.size 72 i0 _ 2 24 Tryd.underlying46 hi0 hz0 hz1 hz2 rfl (by decide) (.slice OA k oc) k (versC O) rfl (HO2.out.alloc _) ⟨W2.heap.size, 0, none⟩ 1 1 [.int .i64 y.n, .string y.v] rfl rfl ?_ ?_ ?_ ?_ ?_ ?_; exact new_cells W2 72 [.int .i64 y.n, .string y.v]; (simp [Value.oneCell']); (unfold maxLen; omega); (omega); (have := HB2.out.size; simp; omega); intro vq w3 hown3 hg3 _ hat3; obtain ⟨NA, nc, rfl⟩ := own_slice hown3; have hv3 : Blk w3 gy 72 #[.int .i64 y.n, .string y.v] := (HV.out.alloc _).grown hg3 (fun he => by have := HGN.out gy he.symm; omega); have x0 : w3.cell? ⟨gy, 0, none⟩ = some (.int .i64 y.n) := hv3.cell 0; have HR3 := Lib.hid (own_grown (HR2.out.alloc _) hg3 (fun b hb he => HAP.out b he hb)); have HB3 := Lib.hid ((HB2.out.alloc HB2.out.size _).grown hg3 (by have := HB2.out.size; simp; omega) (fun b hb => own_base HO2.out hb)); have HO3 := Lib.hid hown3; clear v0 v1))
          have hap3 : ∀ b, (Value.slice NA (k + 1) nc).ownBlock = some b → (Value.slice MA M.length mc).ownBlock ≠ some b := fun b hb he => by
            rcases hat3 with h1 | h1
            · exact HAP.out b (h1 ▸ hb) he
            · have h2 := HRN.out b he
              rw [h1] at hb
              simp at hb
              omega
          have HAP3 := Lib.hid hap3
          have hlo : lastNo (O ++ [y]) = y.n := lastNo_snoc _ _
          have hov : w3.ownsRow w.heap.size 72 2 (.slice NA (k + 1) nc) (k + 1) (versC (O ++ [y])) := by
            have := HO3.out
            rw [versC, flat_snoc]
            exact this
          have HOV := Lib.hid hov
          have hle2 := HLN.out HDE.out
          rw [HY.out, HLA.out] at hle2
          have HL2 := Lib.hid hle2
          have HK13 := Lib.hid (show (O ++ [y]).length = k + 1 by rw [List.length_append]; have := HK1.out; simp; omega)
          clear hap3 hov hle2 hat3 hlo x0

          have HKL : Hid (k + 1 ≤ leN M (lastNo (O ++ [y])) + acts.length) := (by rw [lastNo_snoc, HL2.out, ← HLA.out]; have := HK2.out; omega : k + 1 ≤ _)
          go_roundw
          case rel =>
            exact ⟨k + 1, by go_num, by rw [HNE.out, lastNo_snoc], by rw [HNE.out]; exact HR3.out, by rw [HNE.out]; exact HOV.out, by rw [HNE.out]; exact HK13.out, by rw [HNE.out]; exact HKL.out, fun j hj => by
              rcases Nat.lt_or_ge j k with h1 | h1
              · exact HK3.out j h1
              · obtain rfl : j = k := by omega
                exact HKE.out, fun _ => HSN.out, HAP3.out, HB3.out⟩
          case measure => simp [intOf]; omega
    · have hd : decide (leN M (lastNo O) < M.length) = false := by simpa using hE
      rw [hd]
      have hEE : leN M (lastNo O) = M.length := by have := HLE.out; omega
      have HEE := Lib.hid hEE
      clear hd hE hEE
      go_wp2_with (fail)
      go_ret2
      exact ⟨HB2.out, k, _, _, rfl, by rw [HOE.out]; exact rowR_of HO2.out HK1.out, by rw [HME.out]; exact HR2.out, by rw [HOE.out]; exact HK1.out, by rw [HED.out, HEE.out]; simp, HK3.out⟩
end Go.Proofs.YtmljiegeingpeaaDoor
