/- Acts done to chains: act, build, works; the laws of a pruning. -/
import Derived.Test.YtmljiegeingpeaaDoorScript
namespace Go.Proofs.YtmljiegeingpeaaDoor
set_option linter.unusedSimpArgs false
set_option linter.unusedVariables false
open Go.RowKit

section
variable {V : Type} {L : List (Ver V)}
theorem pruneL_eq (L : List (Ver V)) (n : Int) : pruneL L n = L.drop (leN L n - 1) := by
  unfold pruneL
  split
  · rename_i h; rw [show leN L n - 1 = 0 by omega]; rfl
  · rfl
theorem pruneN_eq (L : List (Ver V)) (n : Int) : pruneN L n = ((leN L n - 1 : Nat) : Int) := by unfold pruneN; split <;> omega
theorem leN_mono (h : UpV L) {n m : Int} (hnm : n ≤ m) : leN L n ≤ leN L m := by
  rcases Nat.lt_or_ge (leN L m) (leN L n) with h1 | h1
  · have h2 := leN_le L n
    have h3 := (leN_lt h (n := n) (k := leN L m) (by omega)).1 h1
    have h4 := (leN_lt h (n := m) (k := leN L m) (by omega)).2 (by omega)
    omega
  · exact h1
theorem leN_drop (h : UpV L) {m : Int} {j : Nat} (hj : j ≤ leN L m) : leN (L.drop j) m = leN L m - j := by
  have h1 := leN_le L m
  refine le_split (by simp; omega) (fun k hk hkm => ?_) (fun k hk hkm => ?_)
  · rw [List.getElem_drop]
    exact (leN_lt h (by simp at hk; omega)).1 (by omega)
  · rw [List.getElem_drop]
    have h2 := mt (leN_lt h (n := m) (k := j + k) (by simp at hk; omega)).2 (by omega)
    omega
theorem leN_drop_le (L : List (Ver V)) (j : Nat) (m : Int) : leN (L.drop j) m ≤ leN L m := ((List.drop_sublist j L).filter _).length_le
theorem leN_pos_mem {n : Int} : 0 < leN L n ↔ ∃ x ∈ L, x.n ≤ n := by
  unfold leN
  rw [List.length_pos_iff_exists_mem]
  simp
/-- Pruned in two steps is as in one. -/
theorem prune_prune (h : UpV L) {n m : Int} (hnm : n ≤ m) : pruneL (pruneL L n) m = pruneL L m ∧ pruneN L m = pruneN L n + pruneN (pruneL L n) m := by
  have h1 := leN_mono h hnm
  have h2 := leN_drop h (m := m) (j := leN L n - 1) (by omega)
  rw [pruneL_eq L n, pruneL_eq _ m, pruneL_eq L m, pruneN_eq, pruneN_eq, pruneN_eq, h2, List.drop_drop]
  refine ⟨by congr 1; omega, by omega⟩
theorem prune_again (h : UpV L) (n : Int) : pruneL (pruneL L n) n = pruneL L n ∧ pruneN (pruneL L n) n = 0 := by
  have h1 := prune_prune h (Int.le_refl n)
  refine ⟨h1.1, by omega⟩
theorem prune_low (h : UpV L) (n : Int) : leN (pruneL L n) n ≤ 1 := by
  rw [pruneL_eq, leN_drop h (by omega)]
  omega
theorem prune_len (L : List (Ver V)) (n : Int) : ((pruneL L n).length : Int) = L.length - pruneN L n := by
  have := leN_le L n
  rw [pruneL_eq, pruneN_eq]
  simp
  omega
theorem prune_pos (h : UpV L) {n m : Int} (hnm : n ≤ m) : 0 < leN (pruneL L n) m ↔ 0 < leN L m := by
  have := leN_mono h hnm
  rw [pruneL_eq, leN_drop h (by omega)]
  omega
theorem prune_sub (L : List (Ver V)) (n m : Int) (h : 0 < leN (pruneL L n) m) : 0 < leN L m := by
  rw [pruneL_eq] at h
  exact Nat.lt_of_lt_of_le h (leN_drop_le L _ m)
theorem prune_at (h : UpV L) {n m : Int} (hnm : n ≤ m) (hp : 0 < leN L m) : (pruneL L n)[leN (pruneL L n) m - 1]? = L[leN L m - 1]? := by
  have := leN_mono h hnm
  rw [pruneL_eq, leN_drop h (by omega), List.getElem?_drop]
  congr 1
  omega
theorem prune_last? (L : List (Ver V)) (n : Int) : (pruneL L n).getLast? = L.getLast? := by
  have := leN_le L n
  rw [pruneL_eq, List.getLast?_drop]
  split
  · rename_i h
    have : L = [] := List.eq_nil_of_length_eq_zero (by omega)
    subst this; rfl
  · rfl
theorem prune_nil (L : List (Ver V)) (n : Int) : (pruneL L n).length = 0 ↔ L.length = 0 := by
  have := leN_le L n
  rw [pruneL_eq]
  simp only [List.length_drop]
  omega
end
theorem prune_lastV (L : List VerS) (n : Int) : lastV (pruneL L n) = lastV L := by unfold lastV; rw [prune_last?]
theorem prune_lastM (L : List VerS) (n : Int) : lastM (pruneL L n) = lastM L := by
  unfold lastM lastNo
  rw [prune_last?]
  by_cases h : L.length = 0
  · rw [if_pos h, if_pos ((prune_nil L n).2 h)]
  · rw [if_neg h, if_neg (fun h2 => h ((prune_nil L n).1 h2))]
theorem prune_atV {L : List VerS} (h : UpV L) {n m : Int} (hnm : n ≤ m) : atV (pruneL L n) m = atV L m := by
  have hp := prune_pos h hnm
  unfold atV
  by_cases h0 : leN L m = 0
  · rw [if_pos h0, if_pos (by omega)]
  · rw [if_neg h0, if_neg (by omega), prune_at h hnm (by omega)]

/-- An act. -/
structure ActS where
  pr : Bool
  n : Int
  v : ByteArray
  wf : n ≤ 9223372036854775807
def ActS.cs (x : ActS) : List Value := [.bool x.pr, .int .i64 x.n, .string x.v]
def actsC (l : List ActS) : List Value := l.flatMap ActS.cs
theorem ActS.len (x : ActS) : x.cs.length = 3 := rfl
theorem acts_at {w : World} {B : Nat} {A : Option Addr} {xs : List ActS} (h : Reads w B 3 A xs.length (actsC xs)) {k : Nat} (hk : k < xs.length) :
    ∃ ad, A = some ad ∧ ad.block < B ∧ w.cell? (ad.add (k * 3)) = some (.bool xs[k].pr) ∧ w.cell? ⟨(ad.add (k * 3)).block, (ad.add (k * 3)).off + 1, none⟩ = some (.int .i64 xs[k].n) ∧ w.cell? ⟨(ad.add (k * 3)).block, (ad.add (k * 3)).off + 2, none⟩ = some (.string xs[k].v) := by
  obtain ⟨ad, e, hb, h0, h1⟩ := Reads.elem ActS.len h hk
  exact ⟨ad, e, hb, h0 _ rfl, h1 1 _ (by omega) rfl, h1 2 _ (by omega) rfl⟩
def doneL (L : List VerS) (a : ActS) : List VerS := if a.pr then pruneL L a.n else putL L ⟨a.n, a.v⟩
theorem UpV.done {L : List VerS} (h : UpV L) (a : ActS) : UpV (doneL L a) := by
  unfold doneL
  split
  · exact h.prune _
  · exact h.put _
theorem MaxV.done {L : List VerS} (h : MaxV L) (a : ActS) : MaxV (doneL L a) := by
  unfold doneL
  split
  · exact h.prune _
  · exact h.put a.wf
theorem doneL_len (L : List VerS) (a : ActS) : (doneL L a).length ≤ L.length + 1 := by
  unfold doneL
  split
  · have := pruneL_len L a.n; omega
  · exact putL_len _ _
/-- What acts leave of no versions. -/
def laidL (l : List ActS) (k : Nat) : List VerS := (l.take k).foldl doneL []
theorem laidL_succ {l : List ActS} {k : Nat} (hk : k < l.length) : laidL l (k + 1) = doneL (laidL l k) l[k] := by
  unfold laidL
  rw [List.take_succ_eq_append_getElem hk, List.foldl_append]
  rfl
theorem laidL_max (l : List ActS) (k : Nat) : MaxV (laidL l k) := by
  unfold laidL
  generalize l.take k = m
  have : ∀ (L : List VerS), MaxV L → MaxV (m.foldl doneL L) := by
    induction m with
    | nil => exact fun L h => h
    | cons a m ih => exact fun L h => ih _ (h.done a)
  exact this [] (fun x hx => by cases hx)
theorem laidL_len (l : List ActS) (k : Nat) : (laidL l k).length ≤ k := by
  induction k with
  | zero => simp [laidL]
  | succ k ih =>
    by_cases hk : k < l.length
    · rw [laidL_succ hk]
      have := doneL_len (laidL l k) l[k]
      omega
    · have : laidL l (k + 1) = laidL l k := by unfold laidL; rw [List.take_of_length_le (by omega), List.take_of_length_le (by omega)]
      rw [this]; omega

/-- What an act leaves of a chain. -/
def ActTo (w : World) (p : Nat) (sv : Value) (L' : List VerS) (e : Ending) (w' : World) : Prop :=
  ∃ sv', e = .returned (.tuple #[]) ∧ Chn w' p sv' L' ∧ But w w' (OfC p sv) ∧ (∀ b, sv'.ownBlock = some b → sv.ownBlock = some b ∨ w.heap.size ≤ b)

set_option maxRecDepth 100000 in
set_option maxHeartbeats 4000000 in
theorem act_calls {p : Nat} {sv : Value} {L : List VerS} (a : ActS) (w : World) (h : Chn w p sv L) (hlen : L.length < 9382499223000) :
    Calls Tryd.prog 50 #[.pointer (some ⟨p, 0, none⟩), .agg #[.bool a.pr, .int .i64 a.n, .string a.v]] w (ActTo w p sv (doneL L a)) := by
  obtain ⟨pr, n, v, hwf⟩ := a
  obtain ⟨g, hg⟩ : ∃ g, w.heap.size = g := ⟨_, rfl⟩
  have H := Lib.hid h
  clear h
  cases pr with
  | true =>
    go_enter Tryd.func50, Tryd.ntmps50
    go_wp2_with (fail)
    have hb0 : Below w.heap.size w (w.alloc (.cells #[.bool true, .int .i64 n, .string v] 30)) := (Below.refl _ _).alloc (Nat.le_refl _) _
    refine (prune_calls n _ (H.out.below hb0)).mono ?_
    rintro e w1 ⟨sv', rfl, hC, hb, hs⟩
    have HC := Lib.hid hC
    have HB := Lib.hid hb
    clear hC hb
    go_wp2
    go_end0
    exact ⟨sv', rfl, HC.out, (But.of_below hb0 _).trans HB.out (fun _ _ h => h), fun b hb => (hs b hb).imp id (fun h => Nat.le_trans hb0.size h)⟩
  | false =>
    go_enter Tryd.func50, Tryd.ntmps50
    go_wp2_with (fail)
    have hb0 : Below w.heap.size w (w.alloc (.cells #[.bool false, .int .i64 n, .string v] 30)) := (Below.refl _ _).alloc (Nat.le_refl _) _
    refine (put_calls n v _ (H.out.below hb0) hlen).mono ?_
    rintro e w1 ⟨sv', rfl, hC, hb, hs⟩
    have HC := Lib.hid hC
    have HB := Lib.hid hb
    have hx := putE_range L n
    clear hC hb
    go_wp2_with (fail)
    refine (num_errV (putE L n) w1 hx.1 hx.2).mono ?_
    rintro e w2 ⟨rfl, rfl⟩
    go_wp2
    go_end0
    exact ⟨sv', rfl, HC.out, (But.of_below hb0 _).trans HB.out (fun _ _ h => h), fun b hb => (hs b hb).imp id (fun h => Nat.le_trans hb0.size h)⟩

set_option maxRecDepth 100000 in
set_option maxHeartbeats 4000000 in
theorem build_calls (l : List ActS) (A : Option Addr) (c : Nat) (w : World) (hr : Reads w w.heap.size 3 A l.length (actsC l)) (hlen : l.length ≤ 9382499223000) :
    Calls Tryd.prog 29 #[.slice A l.length c] w
      fun e w' => ∃ p sv, e = .returned (.pointer (some ⟨p, 0, none⟩)) ∧ Chn w' p sv (laidL l l.length) ∧ Below w.heap.size w w' ∧ ∀ i, OfC p sv i → w.heap.size ≤ i := by
  go_enter Tryd.func29, Tryd.ntmps29
  go_wp2_with (fail)
  refine (newChain_calls w).mono ?_
  rintro e w1 ⟨rfl, hC0, hb1⟩
  obtain ⟨p, hp⟩ : ∃ p, w.heap.size = p := ⟨_, rfl⟩
  rw [hp] at hC0 ⊢
  have HC0 := Lib.hid hC0
  have HB1 := Lib.hid hb1
  clear hC0 hb1
  go_wp2_with (fail)
  go_loopw [4] (fun i wr => ∃ (k : Nat) (sv : Value), k ≤ l.length ∧ i = .int .i64 k ∧ Chn wr p sv (laidL l k) ∧ Below w.heap.size w wr ∧ ∀ i, OfC p sv i → w.heap.size ≤ i) (fun i _ => l.length - (intOf i).toNat)
  case atStart => exact ⟨0, _, Nat.zero_le _, rfl, HC0.out, HB1.out, fun i hi => by
      rcases hi with rfl | hi
      · omega
      · cases hi⟩
  case round =>
    clear HC0 HB1
    obtain ⟨k, sv, hk, rfl, hC, hB, hF⟩ := hrel
    by_cases hlt : k < l.length
    · have hkl : (k : Int) < l.length := by omega
      obtain ⟨ad, rfl, hadb, e0, e1, e2⟩ := acts_at (hr.below hB) hlt
      have hll := laidL_len l k
      have HLS := Lib.hid (laidL_succ hlt)
      generalize l[k] = a at e0 e1 e2 HLS
      have HC := Lib.hid hC
      have HB := Lib.hid hB
      have HF := Lib.hid hF
      clear hC hB hF
      go_wp2_with (fail)
      refine (act_calls a wr HC.out (by omega)).mono ?_
      rintro e w2 ⟨sv', rfl, hC2, hb2, hs2⟩
      have HC2 := Lib.hid hC2
      have HB2 := Lib.hid (HB.out.trans (hb2.to_below HF.out HB.out.size))
      clear hC2 hb2
      go_wp2_with (fail)
      go_roundw
      case rel =>
        refine ⟨k + 1, sv', by omega, by go_num, by rw [HLS.out]; exact HC2.out, HB2.out, fun i hi => ?_⟩
        rcases hi with rfl | hi
        · exact HF.out _ (.inl rfl)
        · rcases hs2 i hi with h1 | h1
          · exact HF.out _ (.inr h1)
          · exact Nat.le_trans HB.out.size h1
      case measure => simp [intOf]; omega
    · obtain rfl : k = l.length := by omega
      have HC := Lib.hid hC
      have HB := Lib.hid hB
      have HF := Lib.hid hF
      clear hC hB hF
      go_wp2
      go_ret
      exact ⟨p, sv, rfl, HC.out, HB.out, HF.out⟩
end Go.Proofs.YtmljiegeingpeaaDoor
