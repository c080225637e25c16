/- Chains and stores of numbers, part 1 (printed by gen_storei.py). -/
import Derived.Test.YtflkddllofeiaaaGreatDoorAb
import Derived.Test.YtflkddllofeiaaaGreatDoorLastV
import Derived.Deep.RegionHeld3
import Derived.Lib.LazyBuf
import Derived.LoopIn
import Derived.LoopNIn
import Derived.OwnWalkIn
import Derived.RangeFuncBound
import Derived.RangeFuncCalls
import Derived.RangeFuncLeaves
import Derived.RangeFuncNested
import Derived.Shelf.Abstract
import Derived.TacticsInMore
namespace Go.Proofs.YtflkddllofeiaaaGreatDoor
set_option linter.unusedVariables false
set_option linter.unusedSimpArgs false
set_option linter.unusedSectionVars false
namespace NI
open Go.RowKit

abbrev VerS := Ver Int
def VerS.cs (x : VerS) : List Value := [.int .i64 x.n, .int .i64 x.v]
def versC (l : List VerS) : List Value := l.flatMap VerS.cs
theorem VerS.len (x : VerS) : (VerS.cs x).length = 2 := rfl
theorem vers_at {w : World} {B : Nat} {A : Option Addr} {xs : List VerS} (h : Reads w B 2 A xs.length (versC xs)) {k : Nat} (hk : k < xs.length) :
    ∃ ad, A = some ad ∧ ad.block < B ∧ w.cell? (ad.add (k * 2)) = some (.int .i64 xs[k].n) ∧ w.cell? ⟨(ad.add (k * 2)).block, (ad.add (k * 2)).off + 1, none⟩ = some (.int .i64 xs[k].v) := by
  obtain ⟨ad, e, hb, h0, h1⟩ := Reads.elem VerS.len h hk
  exact ⟨ad, e, hb, h0 _ rfl, h1 1 _ (by omega) rfl⟩

/-- The chain's order: 1 above, -1 else. -/
theorem above1_calls (x : VerS) (n : Int) (w : World) : Calls Tryz.prog 125 #[.agg #[.int .i64 x.n, .int .i64 x.v], .int .i64 n] w fun e w' => e = .returned (.int .i64 (if n < x.n then 1 else -1)) ∧ Below w.heap.size w w' := by
  go_enter Tryz.func125, Tryz.ntmps125
  by_cases h : n < x.n
  · rw [if_pos h]
    go_wp2
    go_ret
    exact ⟨rfl, (Below.refl _ _).alloc (Nat.le_refl _) _⟩
  · rw [if_neg h]
    have h' : x.n ≤ n := by omega
    go_wp2
    go_ret
    exact ⟨rfl, (Below.refl _ _).alloc (Nat.le_refl _) _⟩

set_option maxRecDepth 100000 in
set_option maxHeartbeats 4000000 in
theorem bs_calls (L : List VerS) (hu : UpV L) (A : Option Addr) (c : Nat) (n : Int) (w : World) (hr : Reads w w.heap.size 2 A L.length (versC L)) (hlen : L.length ≤ 4611686018427387904) :
    Calls Tryz.prog 124 #[.slice A L.length c, .int .i64 n, .func (.func 125) #[] #[]] w
      fun e w' => e = .returned (.tuple #[.int .i64 (leN L n), .bool false]) ∧ Below w.heap.size w w' := by
  go_enter Tryz.func124, Tryz.ntmps124
  go_wp2_with (fail)
  go_loopw [9, 10] (fun i j wr => ∃ a b : Nat, i = .int .i64 a ∧ j = .int .i64 b ∧ a ≤ b ∧ b ≤ L.length ∧ (∀ k (hk : k < L.length), k < a → L[k].n ≤ n) ∧ (∀ k (hk : k < L.length), b ≤ k → n < L[k].n) ∧ Below w.heap.size w wr) (fun i j _ => (intOf j).toNat - (intOf i).toNat)
  case atStart => exact ⟨0, L.length, rfl, rfl, by omega, by omega, fun k _ h => absurd h (by omega), fun k hk h => absurd hk (by omega), Below.refl _ _⟩
  case round =>
    obtain ⟨a, b, rfl, rfl, hab, hbl, h1, h2, B⟩ := hrel
    have H1 := Lib.hid h1
    have H2 := Lib.hid h2
    have HU := Lib.hid hu
    clear h1 h2
    by_cases hlt : a < b
    · have hil : (a : Int) < b := by omega
      have hhl : (a + b) / 2 < L.length := by omega
      obtain ⟨ad, rfl, hadb, e0, e1⟩ := vers_at (hr.below B) hhl
      generalize hx : L[(a + b) / 2] = x at e0 e1
      have HX := Lib.hid hx
      clear hx hr
      have hn0 : (0 : Int) ≤ (a : Int) := by omega
      have hn1 : (0 : Int) ≤ (b : Int) := by omega
      by_cases hc : n < x.n
      · have hc' : (if n < x.n then (1 : Int) else -1) = 1 := if_pos hc
        go_wp2_with (go_at_call 125; refine (above1_calls x n wr).mono ?_; rintro e w1 ⟨rfl, hb1⟩)
        refine ⟨⟨a, (a + b) / 2, rfl, by go_num, by omega, by omega, H1.out, fun k hk hle => ?_, B.trans (hb1.mono B.size)⟩, by simp [intOf]; omega⟩
        have := hu.le hle hk
        rw [HX.out] at this
        omega
      · have hc' : (if n < x.n then (1 : Int) else -1) = -1 := if_neg hc
        go_wp2_with (go_at_call 125; refine (above1_calls x n wr).mono ?_; rintro e w1 ⟨rfl, hb1⟩)
        refine ⟨⟨(a + b) / 2 + 1, b, by go_num, rfl, by omega, by omega, fun k hk hle => ?_, H2.out, B.trans (hb1.mono B.size)⟩, by simp [intOf]; omega⟩
        have := hu.le (i := k) (j := (a + b) / 2) (by omega) (by omega)
        rw [HX.out] at this
        omega
    · obtain rfl : a = b := by omega
      have HLE := Lib.hid (le_split hbl H1.out H2.out)
      by_cases hal : a < L.length
      · obtain ⟨ad, rfl, hadb, e0, e1⟩ := vers_at (hr.below B) hal
        have hx2 := H2.out a hal (Nat.le_refl _)
        have hc' : (if n < L[a].n then (1 : Int) else -1) = 1 := if_pos hx2
        have hal' : (a : Int) < L.length := by omega
        generalize L[a] = x at e0 e1 hc'
        clear hr hx2
        go_wp2_with (go_at_call 125; refine (above1_calls x n wr).mono ?_; rintro e w1 ⟨rfl, hb1⟩)
        go_ret2
        exact ⟨by rw [HLE.out]; rfl, B.trans (hb1.mono B.size)⟩
      · obtain rfl : a = L.length := by omega
        go_wp2
        go_ret2
        exact ⟨by rw [HLE.out]; rfl, B⟩

/-- A chain that lies at p, its row in sv. -/
structure Chn (w : World) (p : Nat) (sv : Value) (L : List VerS) : Prop where
  blk : Blk w p 131 #[sv]
  row : w.ownsRow 0 169 2 sv L.length (versC L)
  up : UpV L
  len : L.length ≤ 9382499223000
section
variable {w w' : World} {p : Nat} {sv : Value} {L : List VerS}
theorem Chn.below (h : Chn w p sv L) (hb : Below w.heap.size w w') : Chn w' p sv L := ⟨h.blk.below hb h.blk.lt, own_below h.row hb, h.up, h.len⟩
theorem Chn.alloc (h : Chn w p sv L) (o : Obj) : Chn (w.alloc o) p sv L := h.below ((Below.refl _ _).alloc (Nat.le_refl _) _)
end

set_option maxRecDepth 100000 in
set_option maxHeartbeats 2000000 in
theorem above_calls {p : Nat} {sv : Value} {L : List VerS} (n : Int) (w : World) (h : Chn w p sv L) : Calls Tryz.prog 111 #[.pointer (some ⟨p, 0, none⟩), .int .i64 n] w
    fun e w' => e = .returned (.int .i64 (leN L n)) ∧ Below w.heap.size w w' := by
  obtain ⟨A, c, rfl⟩ := own_slice h.row
  have c0 : w.cell? ⟨p, 0, none⟩ = some (.slice A L.length c) := h.blk.cell 0
  have hr := Reads.of_own h.row
  go_enter Tryz.func111, Tryz.ntmps111
  go_wp2_with (go_at_call 124; refine (bs_calls L h.up A c n w hr (by have := h.len; omega)).mono ?_; rintro e w1 ⟨rfl, hb1⟩)
  go_ret
  exact ⟨rfl, hb1⟩

set_option maxRecDepth 100000 in
set_option maxHeartbeats 2000000 in
theorem len_calls {p : Nat} {sv : Value} {L : List VerS} (w : World) (h : Chn w p sv L) : Calls Tryz.prog 63 #[.pointer (some ⟨p, 0, none⟩)] w
    fun e w' => e = .returned (.int .i64 L.length) ∧ w' = w := by
  obtain ⟨A, c, rfl⟩ := own_slice h.row
  have c0 : w.cell? ⟨p, 0, none⟩ = some (.slice A L.length c) := h.blk.cell 0
  go_enter Tryz.func63, Tryz.ntmps63
  go_wp2
  go_ret
  exact ⟨rfl, rfl⟩

/-- What counts at a number. -/
def atV (L : List VerS) (n : Int) : Int := if leN L n = 0 then (0 : Int) else ((L[leN L n - 1]?).map (·.v)).getD (0 : Int)
set_option maxRecDepth 100000 in
set_option maxHeartbeats 2000000 in
theorem at_calls {p : Nat} {sv : Value} {L : List VerS} (n : Int) (w : World) (h : Chn w p sv L) : Calls Tryz.prog 86 #[.pointer (some ⟨p, 0, none⟩), .int .i64 n] w
    fun e w' => e = .returned (.tuple #[.int .i64 (atV L n), .bool (decide (0 < leN L n))]) ∧ Below w.heap.size w w' := by
  obtain ⟨A, c, rfl⟩ := own_slice h.row
  have hr := Reads.of_own h.row
  go_enter Tryz.func86, Tryz.ntmps86
  have hle := leN_le L n
  have c0 : w.cell? ⟨p, 0, none⟩ = some (.slice A L.length c) := h.blk.cell 0
  have HLE := Lib.hid hle
  by_cases hm : leN L n = 0
  · have ha : atV L n = (0 : Int) := if_pos hm
    have hd : decide (0 < leN L n) = false := by simp [hm]
    rw [ha, hd]
    have hm' : ((leN L n : Nat) : Int) = 0 := by omega
    have HM := Lib.hid hm
    clear ha hd hr hle hm c0
    go_wp2_with (go_at_call 111; refine (above_calls n w h).mono ?_; rintro e w1 ⟨rfl, hb1⟩; rw [HM.out])
    go_ret2
    exact ⟨rfl, hb1⟩
  · obtain ⟨m, hm2⟩ : ∃ m, leN L n = m + 1 := ⟨leN L n - 1, by omega⟩
    have hml : m < L.length := by omega
    have ha : atV L n = L[m].v := by unfold atV; rw [if_neg hm, show leN L n - 1 = m by omega, List.getElem?_eq_getElem hml]; rfl
    have hd : decide (0 < leN L n) = true := by simp; omega
    rw [ha, hd]
    obtain ⟨ad, rfl, hadb, e0, e1⟩ := vers_at hr hml
    have HM := Lib.hid hm2
    have hlen := h.len
    have hmn : (m : Int) < 9382499223001 := by omega
    generalize L[m] = x at e0 e1 ⊢
    clear ha hd hr hle hm hm2 HLE
    go_wp2_with (go_at_call 111; refine (above_calls n w h).mono ?_; rintro e w1 ⟨rfl, hb1⟩; rw [HM.out]; have c1 := cell_below hb1 c0; have f0 := cell_below hb1 e0; have f1 := cell_below hb1 e1)
    go_ret2
    exact ⟨rfl, hb1⟩
open Go.RowKit

section
variable {a b c w w' : World} {S S' : Nat → Prop}
end

section
variable {w w' : World} {S : Nat → Prop} {p : Nat} {sv : Value} {L : List VerS}
theorem Chn.but (h : Chn w p sv L) (hb : But w w' S) (hS : ∀ i, OfC p sv i → ¬ S i) : Chn w' p sv L :=
  ⟨h.blk.but hb (hS p (.inl rfl)), own_but h.row hb (fun b he => hS b (.inr he)), h.up, h.len⟩
theorem Chn.of_lt (h : Chn w p sv L) {i : Nat} (hi : OfC p sv i) : i < w.heap.size := by
  rcases hi with rfl | hi
  · exact h.blk.lt
  · exact own_lt h.row hi
end
theorem infoVers : (Tryz.prog.info? 169).map (fun i => (i.zero, i.size, i.bytes)) = some (some (.agg #[.int .i64 0, .int .i64 0]), 2, 16) := by kernel_rfl

set_option maxRecDepth 100000 in
set_option maxHeartbeats 2000000 in
theorem newChain_calls (w : World) : Calls Tryz.prog 84 #[] w fun e w' => e = .returned (.pointer (some ⟨w.heap.size, 0, none⟩)) ∧ Chn w' w.heap.size (.slice none 0 0) [] ∧ Below w.heap.size w w' := by
  go_enter Tryz.func84, Tryz.ntmps84
  go_wp2
  go_ret
  exact ⟨rfl, ⟨Blk.new _ _ _, World.ownsRow_nil _ _ _ _, UpV.nil, by simp⟩, (Below.refl _ _).alloc (Nat.le_refl _) _⟩

theorem put_done {w w2 : World} {p : Nat} {sv sv' : Value} {L : List VerS} {x : VerS} {o : Obj} (h : Chn w p sv L) (hown : w2.ownsRow 0 169 2 sv' (L.length + 1) (versC L ++ VerS.cs x)) (hg : (w.alloc o).grownBy w2 sv.ownBlock)
    (hat : sv'.ownBlock = sv.ownBlock ∨ sv'.ownBlock = some (w.alloc o).heap.size) (hk : Blk w2 p 131 #[sv]) (hx : lastNo L < x.n) (h0 : 0 ≤ x.n) (hlen : L.length < 9382499223000) :
    Chn (w2.setCell ⟨p, 0, none⟩ sv') p sv' (L ++ [x]) ∧ But w (w2.setCell ⟨p, 0, none⟩ sv') (OfC p sv) ∧ (∀ b, sv'.ownBlock = some b → sv.ownBlock = some b ∨ w.heap.size ≤ b) := by
  have hne : sv'.ownBlock ≠ some p := own_blk_ne hown hk (by decide)
  have e1 : (L ++ [x]).length = L.length + 1 := by simp
  have e2 : versC (L ++ [x]) = versC L ++ VerS.cs x := by simp [versC]
  have hb : But w w2 (OfC p sv) := ((But.refl w _).alloc o).grown hg (fun i _ he => .inr he)
  refine ⟨⟨?_, ?_, h.up.snoc hx h0, by rw [e1]; omega⟩, hb.setCell (fun _ => .inl rfl) _, ?_⟩
  · have := Blk.set_ hk 0 sv'
    exact this
  · rw [e1, e2]
    refine own_but hown ((But.refl w2 (fun i => i = p)).setCell (fun _ => rfl) _) (fun b hb he => hne (by rw [hb, he]))
  · intro b hb
    rcases hat with h1 | h1
    · exact .inl (by rw [← h1]; exact hb)
    · rw [h1] at hb
      cases hb
      exact .inr (by simp)
set_option maxRecDepth 100000 in
set_option maxHeartbeats 4000000 in
theorem put_calls {p : Nat} {sv : Value} {L : List VerS} (n : Int) (v : Int) (w : World) (h : Chn w p sv L) (hlen : L.length < 9382499223000) :
    Calls Tryz.prog 85 #[.pointer (some ⟨p, 0, none⟩), .int .i64 n, .int .i64 v] w
      fun e w' => ∃ sv', e = .returned (errV (putE L n)) ∧ Chn w' p sv' (putL L ⟨n, v⟩) ∧ But w w' (OfC p sv) ∧ (∀ b, sv'.ownBlock = some b → sv.ownBlock = some b ∨ w.heap.size ≤ b) := by
  obtain ⟨i0, hi0, hz0, hz1, hz2⟩ := info_parts infoVers
  obtain ⟨A, c, rfl⟩ := own_slice h.row
  have c0 : w.cell? ⟨p, 0, none⟩ = some (.slice A L.length c) := h.blk.cell 0
  have z0 : w.frozen? ⟨p, 0, none⟩ = false := h.blk.frozen 0
  have hr := Reads.of_own h.row
  have H := Lib.hid h
  go_enter Tryz.func85, Tryz.ntmps85
  by_cases hm : mayPut L n = true
  · have hm2 : lastNo L < n ∧ 0 ≤ n := by simpa [mayPut] using hm
    obtain ⟨hm3, hm4⟩ := hm2
    have e1 : putE L n = 0 := by simp [putE, hm]
    have e2 : putL L ⟨n, v⟩ = L ++ [⟨n, v⟩] := by simp [putL, hm]
    rw [e1, e2, errV_zero]
    have HM := Lib.hid hm3
    have HM4 := Lib.hid hm4
    clear e1 e2 hm hm3
    by_cases hl : 0 < L.length
    · obtain ⟨m, hm5⟩ : ∃ m, L.length = m + 1 := ⟨L.length - 1, by omega⟩
      have hml : m < L.length := by omega
      have hlast : L[m].n < n := by have := HM.out; rw [lastNo_pos hl] at this; simpa [hm5] using this
      obtain ⟨ad, rfl, hadb, f0, f1⟩ := vers_at hr hml
      have hl' : (0 : Int) < L.length := by omega
      generalize L[m].n = y at hlast f0
      have HM5 := Lib.hid hm5
      have e3 : ((L.length : Nat) : Int) - 1 = m := by omega
      clear hr f1 hm5 hml hl
      go_wp2_with (first | (at_builtin; refine wpList_append_wide_at _ rfl (.tmp 37) (.tmp 41) 129 rfl 0 169 i0 _ 2 16 Tryz.underlying129 hi0 hz0 hz1 hz2 rfl (by decide) _ L.length (versC L) rfl (H.out.row.alloc _) ⟨w.heap.size, 0, none⟩ 1 1 [.int .i64 n, .int .i64 v] rfl rfl ?_ ?_ ?_ ?_ ?_ ?_; exact new_cells w 169 [.int .i64 n, .int .i64 v]; (simp [Value.oneCell']); ( unfold maxLen; omega); ( omega); (simp); intro v1 w2 hown2 hg2 _ hat2; have k2 := Blk.grown (H.out.blk.alloc _) hg2 (Ne.symm (own_blk_ne H.out.row H.out.blk (by decide))); have c2 : w2.cell? ⟨p, 0, none⟩ = some (.slice (some ad) L.length c) := Blk.cell k2 0; have z2 : w2.frozen? ⟨p, 0, none⟩ = false := Blk.frozen k2 0; obtain ⟨BA, bc, rfl⟩ := own_slice hown2; have K2 := Lib.hid k2; clear k2))
      go_ret
      obtain ⟨k1, k2, k3⟩ := put_done (x := ⟨n, v⟩) H.out hown2 hg2 hat2 K2.out HM.out HM4.out hlen
      exact ⟨_, rfl, k1, k2, k3⟩
    · obtain rfl : L = [] := List.eq_nil_of_length_eq_zero (by omega)
      clear hr hl
      go_wp2_with (first | (at_builtin; refine wpList_append_wide_at _ rfl (.tmp 37) (.tmp 41) 129 rfl 0 169 i0 _ 2 16 Tryz.underlying129 hi0 hz0 hz1 hz2 rfl (by decide) _ 0 (versC []) rfl (H.out.row.alloc _) ⟨w.heap.size, 0, none⟩ 1 1 [.int .i64 n, .int .i64 v] rfl rfl ?_ ?_ ?_ ?_ ?_ ?_; exact new_cells w 169 [.int .i64 n, .int .i64 v]; (simp [Value.oneCell']); ( unfold maxLen; omega); ( omega); (simp); intro v1 w2 hown2 hg2 _ hat2; have k2 := Blk.grown (H.out.blk.alloc _) hg2 (Ne.symm (own_blk_ne H.out.row H.out.blk (by decide))); have c2 : w2.cell? ⟨p, 0, none⟩ = some (.slice A 0 c) := Blk.cell k2 0; have z2 : w2.frozen? ⟨p, 0, none⟩ = false := Blk.frozen k2 0; obtain ⟨BA, bc, rfl⟩ := own_slice hown2; have K2 := Lib.hid k2; clear k2))
      go_ret
      obtain ⟨k1, k2, k3⟩ := put_done (x := ⟨n, v⟩) H.out hown2 hg2 hat2 K2.out HM.out HM4.out hlen
      exact ⟨_, rfl, k1, k2, k3⟩
  · have e1 : putE L n = 1 := by simp [putE, hm]
    have e2 : putL L ⟨n, v⟩ = L := by simp [putL, hm]
    rw [e1, e2, errV_pos (by omega)]
    have hm2 : ¬ (lastNo L < n ∧ 0 ≤ n) := by simpa [mayPut] using hm
    clear e1 e2 hm
    by_cases hn : n < 0
    · clear hm2 hr
      go_wp2_with (fail)
      go_ret
      exact ⟨_, rfl, H.out, But.refl _ _, fun b hb => .inl hb⟩
    · have hn0 : 0 ≤ n := by omega
      have hl : 0 < L.length := by
        rcases Nat.eq_zero_or_pos L.length with h0 | h0
        · exfalso
          have : L = [] := List.eq_nil_of_length_eq_zero h0
          subst this
          exact hm2 ⟨by simp [lastNo]; omega, hn0⟩
        · exact h0
      obtain ⟨m, hm5⟩ : ∃ m, L.length = m + 1 := ⟨L.length - 1, by omega⟩
      have hml : m < L.length := by omega
      have hlast : n ≤ L[m].n := by
        have h3 : ¬ lastNo L < n := fun h4 => hm2 ⟨h4, hn0⟩
        rw [lastNo_pos hl] at h3
        simp [hm5] at h3
        exact h3
      obtain ⟨ad, rfl, hadb, f0, f1⟩ := vers_at hr hml
      generalize L[m].n = y at hlast f0
      have hl' : (0 : Int) < L.length := by omega
      have e3 : ((L.length : Nat) : Int) - 1 = m := by omega
      clear hr f1 hm5 hml hl hm2 hn
      go_wp2_with (fail)
      go_ret
      exact ⟨_, rfl, H.out, But.refl _ _, fun b hb => .inl hb⟩
open Go.RowKit

theorem vers_one (xs : List VerS) : ∀ u ∈ versC xs, u.oneCell' = true := by
  intro u hu
  obtain ⟨x, _, hx⟩ := List.mem_flatMap.1 hu
  simp [VerS.cs] at hx
  rcases hx with rfl | rfl <;> rfl
theorem reads_drop {w : World} {B : Nat} {ad : Addr} {L : List VerS} {m : Nat} (h : Reads w B 2 (some ad) L.length (versC L)) (hm : m ≤ L.length) : Reads w B 2 (some (ad.add (m * 2))) (L.drop m).length (versC (L.drop m)) := by
  have hd : (versC L).drop (m * 2) = versC (L.drop m) := flat_drop VerS.len L m
  refine ⟨flat_length VerS.len _, fun h0 => ?_⟩
  simp at h0
  obtain ⟨ad2, e, hb, hc⟩ := h.2 (by omega)
  cases e
  refine ⟨_, rfl, by rw [block_of_add]; exact hb, fun j u hu => ?_⟩
  rw [add_of_add]
  rw [← hd, List.getElem?_drop] at hu
  exact hc _ _ hu
set_option maxRecDepth 100000 in
set_option maxHeartbeats 2000000 in
theorem clone_calls (xs : List VerS) (ad : Addr) (c : Nat) (w : World) (hr : Reads w w.heap.size 2 (some ad) xs.length (versC xs)) (h0 : 0 < xs.length) (hlen : xs.length ≤ 9382499223000) :
    Calls Tryz.prog 113 #[.slice (some ad) xs.length c] w
      fun e w' => ∃ v, e = .returned v ∧ w'.ownsRow w.heap.size 169 2 v xs.length (versC xs) ∧ Below w.heap.size w w' := by
  obtain ⟨i0, hi0, hz0, hz1, hz2⟩ := info_parts infoVers
  have hl : (versC xs).length = xs.length * 2 := hr.1
  obtain ⟨ad2, e, hb, hc⟩ := hr.2 h0
  cases e
  have heq := fun W => run_eql_slice_nil (P := Tryz.prog) W _ _ (some ad) xs.length c Tryz.underlying129
  have HC := Lib.hid hc
  have HL := Lib.hid hl
  clear hr hc hl
  go_enter Tryz.func113, Tryz.ntmps113
  go_wp2_with (first | (at_builtin; refine wpList_append_wide_at _ rfl (.tmp 5) (.tmp 6) 129 rfl w.heap.size 169 i0 _ 2 16 Tryz.underlying129 hi0 hz0 hz1 hz2 rfl (by decide) _ 0 [] rfl (own_empty w _ _ _ (Nat.le_refl _)) ad xs.length c (versC xs) rfl HL.out ?_ (vers_one xs) ?_ ?_ ?_ ?_; (intro j u hu; exact (World.cell?_alloc_lt w _ _ (by rw [block_of_add]; exact hb)).trans (HC.out j u hu)); (unfold maxLen; omega); (omega); (simp); intro v1 w2 hown2 hg2 _ hat2))
  go_ret
  refine ⟨_, rfl, by simpa using hown2, ?_⟩
  exact ((Below.refl _ _).alloc (Nat.le_refl _) _).grown hg2 (by simp) (fun k hk => by cases hk; exact Nat.le_refl _)

set_option maxRecDepth 100000 in
set_option maxHeartbeats 2000000 in
theorem prune_calls {p : Nat} {sv : Value} {L : List VerS} (n : Int) (w : World) (h : Chn w p sv L) :
    Calls Tryz.prog 88 #[.pointer (some ⟨p, 0, none⟩), .int .i64 n] w
      fun e w' => ∃ sv', e = .returned (.int .i64 (pruneN L n)) ∧ Chn w' p sv' (pruneL L n) ∧ But w w' (OfC p sv) ∧ (∀ b, sv'.ownBlock = some b → sv.ownBlock = some b ∨ w.heap.size ≤ b) := by
  have H := Lib.hid h
  have hle := leN_le L n
  by_cases hm : leN L n < 2
  · have e1 : pruneN L n = 0 := if_pos hm
    have e2 : pruneL L n = L := if_pos hm
    rw [e1, e2]
    have hm' : ((leN L n : Nat) : Int) < 2 := by omega
    clear e1 e2 hm hle
    go_enter Tryz.func88, Tryz.ntmps88
    go_wp2_with (go_at_call 111; refine (above_calls n w h).mono ?_; rintro e w1 ⟨rfl, hb1⟩)
    go_ret
    exact ⟨_, rfl, H.out.below hb1, But.of_below hb1 _, fun b hb => .inl hb⟩
  · obtain ⟨m, hm2⟩ : ∃ m, leN L n = m + 1 := ⟨leN L n - 1, by omega⟩
    have e1 : pruneN L n = m := by unfold pruneN; rw [if_neg hm]; omega
    have e2 : pruneL L n = L.drop m := by unfold pruneL; rw [if_neg hm, show leN L n - 1 = m by omega]
    rw [e1, e2]
    obtain ⟨A, c, rfl⟩ := own_slice h.row
    have c0 : w.cell? ⟨p, 0, none⟩ = some (.slice A L.length c) := h.blk.cell 0
    have hr := Reads.of_own h.row
    have hcap : L.length ≤ c := own_capn h.row
    have hml : m < L.length := by omega
    have hlen := h.len
    have hm1 : 1 ≤ m := by omega
    obtain ⟨ad, rfl, _⟩ := hr.2 (by omega)
    have hd : (L.drop m).length = L.length - m := by simp
    have HD := Lib.hid hd
    have HR := Lib.hid hr
    have HM := Lib.hid hm2
    have hmi : (1 : Int) ≤ m := by omega
    clear e1 e2 hm hle hr hd hm2
    go_enter Tryz.func88, Tryz.ntmps88
    go_wp2_with (go_at_call 111; refine (above_calls n w h).mono ?_; rintro e w1 ⟨rfl, hb1⟩; rw [HM.out]; have c1 := cell_below hb1 c0)
    have hr1 : Reads w1 w1.heap.size 2 (some (ad.add (m * 2))) (L.drop m).length (versC (L.drop m)) := (reads_drop ((HR.out.below hb1).more hb1.size) (by omega))
    rw [← HD.out]
    refine (clone_calls (L.drop m) (ad.add (m * 2)) (c - m) w1 hr1 (by rw [HD.out]; omega) (by rw [HD.out]; omega)).mono ?_
    rintro e w2 ⟨v, rfl, hown, hb2⟩
    rw [HD.out] at hown
    obtain ⟨BA, bc, rfl⟩ := own_slice hown
    have hk2 := (H.out.blk.below hb1 H.out.blk.lt).below hb2 (H.out.below hb1).blk.lt
    have z2 : w2.frozen? ⟨p, 0, none⟩ = false := hk2.frozen 0
    have c2 : w2.cell? ⟨p, 0, none⟩ = some (.slice (some ad) L.length c) := hk2.cell 0
    have K2 := Lib.hid hk2
    have HO := Lib.hid hown
    clear hk2 hown hr1
    go_wp2
    go_ret
    have hne : (Value.slice BA (L.length - m) bc).ownBlock ≠ some p := own_blk_ne HO.out K2.out (by decide)
    have hb : But w w2 (OfC p (.slice (some ad) L.length c)) := But.of_below (hb1.trans (hb2.mono hb1.size)) _
    refine ⟨_, rfl, ⟨Blk.set_ K2.out 0 _, ?_, H.out.up.drop m, by rw [HD.out]; omega⟩, hb.setCell (fun _ => .inl rfl) _, fun b hb => .inr ?_⟩
    · rw [HD.out]
      refine own_but (S := fun i => i = p) ?_ ((But.refl w2 (fun i => i = p)).setCell (fun _ => rfl) _) (fun b hb he => hne (by rw [hb, he]))
      exact own_base0 HO.out
    · exact Nat.le_trans hb1.size (own_base HO.out hb)
open Go.RowKit

def MaxV (l : List VerS) : Prop := ∀ x ∈ l, x.n ≤ 9223372036854775807
theorem leN_max {l : List VerS} (h : MaxV l) : leN l 9223372036854775807 = l.length := by
  unfold leN
  rw [List.filter_eq_self.2 (fun x hx => by simpa using h x hx)]

/-- The newest version's text. -/
def lastV (l : List VerS) : Int := (l.getLast?.map (·.v)).getD (0 : Int)
theorem lastV_pos {l : List VerS} (h : 0 < l.length) : lastV l = l[l.length - 1].v := by
  unfold lastV
  rw [List.getLast?_eq_getElem?, List.getElem?_eq_getElem (by omega)]
  rfl
def lastM (l : List VerS) : Int := if l.length = 0 then 0 else lastNo l

open Go.RowKit Go.Shelf
attribute [local go_sem] Oper.semAt_some

section
variable {K : Nat → Prop} {A B C : World}
theorem Chn.keep {p : Nat} {sv : Value} {L : List VerS} (h : Chn A p sv L) (hb : KeepK K A B) (hS : ∀ i, OfC p sv i → K i) : Chn B p sv L :=
  ⟨h.blk.keep hb (hS p (.inl rfl)), own_keep h.row hb (fun b he => hS b (.inr he)), h.up, h.len⟩
theorem Chn.grown {p : Nat} {sv : Value} {L : List VerS} {row : Option Nat} (h : Chn A p sv L) (hg : A.grownBy B row) (hr : ∀ r, row = some r → ¬ OfC p sv r) : Chn B p sv L :=
  h.but (S := fun i => row = some i) ⟨hg.os, hg.tape, hg.output, hg.size, fun k hk hn => hg.block k hk (fun e => hn e.symm)⟩ (fun i hi he => hr i he hi)
end

theorem leN_last {L : List VerS} (h : UpV L) {k : Nat} (hk : k ≤ L.length) : leN L (lastNo (L.take k)) = k := by
  refine le_split hk (fun j hj hjk => ?_) (fun j hj hkj => ?_)
  · have : 0 < (L.take k).length := by simp; omega
    rw [lastNo_pos this]
    simp only [List.length_take, List.getElem_take]
    exact h.le (by omega) (by omega)
  · by_cases h0 : k = 0
    · subst h0; simp [lastNo]; have := h.2 L[j] (by simp); omega
    · have : 0 < (L.take k).length := by simp; omega
      rw [lastNo_pos this]
      simp only [List.length_take, List.getElem_take]
      exact h.lt (by omega) hj

set_option maxRecDepth 100000 in
set_option maxHeartbeats 1000000 in
theorem all_calls (p : Nat) (w : World) : Calls Tryz.prog 112 #[.pointer (some ⟨p, 0, none⟩)] w
    fun e w' => e = .returned (.func (.func 126) #[] #[.pointer (some ⟨w.heap.size, 0, none⟩)]) ∧ w' = w.alloc (.cells #[.pointer (some ⟨p, 0, none⟩)] 94) := by
  go_enter Tryz.func112, Tryz.ntmps112
  go_wp2
  go_ret
  exact ⟨rfl, rfl⟩

set_option maxRecDepth 100000 in
set_option maxHeartbeats 4000000 in
theorem all_stops (n : Nat) (hn : 1 ≤ n) (b p : Nat) (sv : Value) (L : List VerS) (w : World) (hb : Blk w b 94 #[.pointer (some ⟨p, 0, none⟩)]) (hc : Chn w p sv L) :
    SeqStopsK Fence.wide n Tryz.prog 126 #[.pointer (some ⟨b, 0, none⟩)] (fun x : VerS => #[.int .i64 x.n, .int .i64 x.v]) (KeepK (WalkK b p sv)) (fun ys => ys = L) (fun pre => pre <+: L) L.length w := by
  intro l J Jx W hW hJ hJx hY h0
  have hbW := hb.below hW hb.lt
  have hcW := hc.below hW
  refine callsIn_of_wp Tryz.func126 rfl trivial ?_ rfl
  simp only [Tryz.ntmps126, List.size_toArray, List.length_cons, List.length_nil, Nat.reduceAdd, Nat.reduceSub, Array.replicate_succ, Array.replicate_zero, List.push_toArray, List.append_toArray, List.nil_append, List.cons_append]
  have k0 : W.cell? ⟨b, 0, none⟩ = some (.pointer (some ⟨p, 0, none⟩)) := hbW.cell 0
  have HC := Lib.hid hcW
  have HBW := Lib.hid hbW
  have HJ := Lib.hid hJ
  have HY := Lib.hid hY
  have H0 := Lib.hid h0
  clear hcW hbW hJ hJx hY h0
  gi_wp2_with (first | (refine ⟨trivial, ?_⟩; gi_at_call 111; refine (callsIn_wide.2 (above_calls (-1) W HC.out)).mono ?_; rintro e w1 ⟨rfl, hb1⟩))
  gi_loopw [3, 4] (fun la i wr => ∃ k : Nat, k ≤ L.length ∧ la = .int .i64 (lastNo (L.take k)) ∧ i = .int .i64 k ∧ J (L.take k) wr ∧ KeepK (WalkK b p sv) W wr) (fun _ i _ => L.length - (intOf i).toNat)
  case atStart =>
    refine ⟨0, Nat.zero_le _, rfl, ?_, HJ.out _ W w1 none H0.out ⟨hb1.os, hb1.tape, hb1.output, hb1.size, fun k hk _ => hb1.block k hk⟩ (fun r e => by cases e), KeepK.of_below hb1 ?_⟩
    · have := leN_last HC.out.up (k := 0) (Nat.zero_le _)
      simp [lastNo] at this
      rw [this]
    · rintro i (rfl | hi)
      · exact HBW.out.lt
      · exact HC.out.of_lt hi
  case round =>
    clear hb1 w1
    obtain ⟨k, hk, rfl, rfl, hJs, hK⟩ := hrel
    have hCr := HC.out.keep hK (fun i hi => .inr hi)
    have hBr := HBW.out.keep hK (.inl rfl)
    have q0 : wr.cell? ⟨b, 0, none⟩ = some (.pointer (some ⟨p, 0, none⟩)) := hBr.cell 0
    obtain ⟨A, c, rfl⟩ := own_slice hCr.row
    have q1 : wr.cell? ⟨p, 0, none⟩ = some (.slice A L.length c) := hCr.blk.cell 0
    have HCR := Lib.hid hCr
    have HBR := Lib.hid hBr
    have HK := Lib.hid hK
    by_cases hlt : k < L.length
    · have hkl : (k : Int) < L.length := by omega
      obtain ⟨ad, rfl, hadb, e0, e1⟩ := vers_at (Reads.of_own hCr.row) hlt
      have htk : L.take (k + 1) = L.take k ++ [L[k]] := by rw [List.take_succ_eq_append_getElem hlt]
      have hln : lastNo (L.take (k + 1)) = L[k].n := by rw [htk, lastNo_snoc]
      have hle2 : leN L L[k].n = k + 1 := by rw [← hln]; exact leN_last hCr.up (by omega)
      generalize hx : L[k] = x at e0 e1 htk hln hle2
      have HTK := Lib.hid htk
      have HLN := Lib.hid hln
      have HLE := Lib.hid hle2
      obtain ⟨W1, hW1⟩ : ∃ W1, wr.alloc (.cells #[.int .i64 x.n, .int .i64 x.v] 169) = W1 := ⟨_, rfl⟩
      have hJ1 : J (L.take k) W1 := HJ.out _ wr W1 none hJs (hW1 ▸ World.grownBy_alloc wr _ none) (fun r e => by cases e)
      have hBW1 : Below wr.heap.size wr W1 := hW1 ▸ (Below.refl _ _).alloc (Nat.le_refl _) _
      have hK1 : KeepK (WalkK b p (.slice (some ad) L.length c)) W W1 := hK.trans (KeepK.of_below hBW1 (by
        rintro i (rfl | hi)
        · exact HBR.out.lt
        · exact HCR.out.of_lt hi))
      obtain ⟨fn, tmps, assign, body, hy, hR⟩ := HY.out _ x W1 hJ1 (by simp; omega)
      have hXB : Blk W1 wr.heap.size 169 #[.int .i64 x.n, .int .i64 x.v] := hW1 ▸ Blk.new _ _ _
      have x0 : W1.cell? ⟨wr.heap.size, 0, none⟩ = some (.int .i64 x.n) := hXB.cell 0
      have x1 : W1.cell? ⟨wr.heap.size, 1, none⟩ = some (.int .i64 x.v) := hXB.cell 1
      have HK1 := Lib.hid hK1
      clear hCr hBr hK htk hln hle2 hx hJ1 hBW1 hK1 hJs hXB
      gi_wp2
      refine hR.mono ?_
      rintro e W3 (⟨rfl, hJ3, hk3⟩ | ⟨rfl, hJx3⟩)
      · have hK3 := HK1.out.trans hk3
        have hC3 := HC.out.keep hK3 (fun i hi => .inr hi)
        have hB3 := HBW.out.keep hK3 (.inl rfl)
        have r0 : W3.cell? ⟨b, 0, none⟩ = some (.pointer (some ⟨p, 0, none⟩)) := hB3.cell 0
        have HJ3 := Lib.hid hJ3
        have HC3 := Lib.hid hC3
        have HB3 := Lib.hid hB3
        have HK3 := Lib.hid hK3
        clear hJ3 hk3 hC3 hB3 hK3 q0 q1 e0 e1 x0 x1 hy hR
        gi_wp2_with (first | (refine ⟨trivial, ?_⟩; gi_at_call 111; refine (callsIn_wide.2 (above_calls x.n W3 HC3.out)).mono ?_; rintro e w4 ⟨rfl, hb4⟩; rw [HLE.out]))
        go_roundw
        case rel =>
          refine ⟨k + 1, by omega, by rw [HLN.out], by go_num, ?_, HK3.out.trans (KeepK.of_below hb4 ?_)⟩
          · rw [HTK.out]
            exact HJ.out _ W3 w4 none HJ3.out ⟨hb4.os, hb4.tape, hb4.output, hb4.size, fun k hk _ => hb4.block k hk⟩ (fun r e => by cases e)
          · rintro i (rfl | hi)
            · exact HB3.out.lt
            · exact HC3.out.of_lt hi
        case measure => simp [intOf]; omega
      · have HX3 := Lib.hid hJx3
        clear hJx3 hy hR
        gi_wp2
        refine bodyPost_ret (results_none rfl _ _ _) rfl ?_
        exact ⟨⟨_, rfl⟩, .inr ⟨_, by rw [← HTK.out]; exact List.take_prefix _ _, HX3.out⟩⟩
    · obtain rfl : k = L.length := by omega
      rw [List.take_length] at hJs
      have HJS := Lib.hid hJs
      clear hCr hBr hK hJs
      gi_wp2
      go_end0
      exact ⟨⟨_, rfl⟩, .inl ⟨_, rfl, HJS.out⟩⟩
open Go.RowKit Go.Shelf
attribute [local go_sem] Oper.semAt_some

theorem lastV_snoc (l : List VerS) (x : VerS) : lastV (l ++ [x]) = x.v := by simp [lastV]
theorem lastM_snoc (l : List VerS) (x : VerS) : lastM (l ++ [x]) = x.n := by unfold lastM; rw [if_neg (by simp), lastNo_snoc]

set_option maxRecDepth 100000 in
set_option maxHeartbeats 4000000 in
theorem last_calls {p : Nat} {sv : Value} {L : List VerS} (w : World) (h : Chn w p sv L) : Calls Tryz.prog 87 #[.pointer (some ⟨p, 0, none⟩)] w
    fun e w' => e = .returned (.tuple #[.int .i64 (lastV L), .int .i64 (lastM L), .bool (decide (0 < L.length))]) ∧ Below w.heap.size w w' := by
  refine (callsIn_wide (n := 3)).1 ?_
  refine callsIn_of_wp_marks Tryz.func87 rfl trivial ?_ rfl
  simp only [Tryz.ntmps87, List.size_toArray, List.length_cons, List.length_nil, Nat.reduceAdd, Nat.reduceSub, Array.replicate_succ, Array.replicate_zero, List.push_toArray, List.append_toArray, List.nil_append, List.cons_append]
  obtain ⟨g, hg⟩ : ∃ g, w.heap.size = g := ⟨_, rfl⟩
  gi_wp2_with (first | (refine ⟨trivial, ?_⟩; gi_at_call 112; refine (callsIn_wide.2 (all_calls p _)).mono ?_; rintro e w' ⟨rfl, rfl⟩))
  obtain ⟨W0, hW0⟩ : ∃ W0, (((w.alloc (.cells #[.int .i64 0] 3)).alloc (.cells #[.int .i64 0] 3)).alloc (.cells #[.bool false] 4)).alloc (.cells #[.pointer (some ⟨p, 0, none⟩)] 94) = W0 := ⟨_, rfl⟩
  have s1 : ∀ (v : World) (o : Obj), (v.alloc o).heap.size = v.heap.size + 1 := fun v o => by simp
  have hB0 : Below w.heap.size w W0 := hW0 ▸ ((((Below.refl _ _).alloc (Nat.le_refl _) _).alloc (by simp) _).alloc (by simp; omega) _).alloc (by simp; omega) _
  have hs0 : W0.heap.size = g + 4 := by rw [← hW0]; simp [s1, hg]
  have b0 : Blk W0 g 3 #[.int .i64 0] := by
    rw [← hW0, ← hg]; exact (((Blk.new w _ _).alloc _).alloc _).alloc _
  have b1 : Blk W0 (g + 1) 3 #[.int .i64 0] := by
    rw [← hW0, ← hg]; have h := Blk.new (w.alloc (.cells #[.int .i64 0] 3)) 3 #[.int .i64 0]; rw [s1] at h; exact (h.alloc _).alloc _
  have b2 : Blk W0 (g + 1 + 1) 4 #[.bool false] := by
    rw [← hW0, ← hg]; have h := Blk.new ((w.alloc (.cells #[.int .i64 0] 3)).alloc (.cells #[.int .i64 0] 3)) 4 #[.bool false]; rw [s1, s1] at h; exact h.alloc _
  have b3 : Blk W0 (g + 1 + 1 + 1) 94 #[.pointer (some ⟨p, 0, none⟩)] := by
    rw [← hW0, ← hg]; have h := Blk.new (((w.alloc (.cells #[.int .i64 0] 3)).alloc (.cells #[.int .i64 0] 3)).alloc (.cells #[.bool false] 4)) 94 #[.pointer (some ⟨p, 0, none⟩)]; rw [s1, s1, s1] at h; exact h
  have hC0 : Chn W0 p sv L := h.below hB0
  have hKlt : ∀ i, WalkK (g + 1 + 1 + 1) p sv i → i < W0.heap.size := by
    rintro i (rfl | hi)
    · rw [hs0]; omega
    · exact hC0.of_lt hi
  have hold : ∀ i, OfC p sv i → i < g := fun i hi => hg ▸ h.of_lt hi
  rw [hW0]
  have H := Lib.hid h
  clear hW0 h
  refine wpIn_rangeFunc_ownG (F := Fence.wide) rfl (by omega) (gf := 126) (lb := #[.pointer (some ⟨g + 1 + 1 + 1, 0, none⟩)]) rfl trivial (enters_of Tryz.func126 (by kernel_rfl) rfl)
    (all_stops 2 (by omega) (g + 1 + 1 + 1) p sv L W0 b3 hC0) KeepK.trans (KeepK.put hKlt) (Below.refl _ _) (fun _ => rfl)
    (fun pre W => (Blk W g 3 #[.int .i64 (lastV pre)] ∧ Blk W (g + 1) 3 #[.int .i64 (lastM pre)] ∧ Blk W (g + 1 + 1) 4 #[.bool (decide (0 < pre.length))]) ∧ Below w.heap.size w W)
    (fun _ _ _ => False)
    (OwnFrom.and (Own.from (fun s A B row hs hg hr => ⟨blk_kept hs.1 hg hr, blk_kept hs.2.1 hg hr, blk_kept hs.2.2 hg hr⟩) _) (ownFrom_below (Nat.le_refl _) (by rw [hs0]; omega)))
    (fun _ _ _ _ _ hs _ _ => hs)
    ⟨⟨b0, b1, b2⟩, hB0⟩
    (fun x => { tmps := #[.pointer (some ⟨p, 0, none⟩), undef, .pointer (some ⟨g, 0, none⟩), .pointer (some ⟨g + 1, 0, none⟩), .pointer (some ⟨g + 1 + 1, 0, none⟩), .int .i64 x.n, .int .i64 x.v, .pointer (some ⟨p, 0, none⟩), .func (.func 126) #[] #[.pointer (some ⟨g + 1 + 1 + 1, 0, none⟩)], .int .i64 x.n, .int .i64 x.v, undef, undef, undef, undef, undef], defers := [] }) ?assign ?body ?done ?stop
  case assign =>
    intro l x W K hK
    gi_wp2
    exact hK
  case body =>
    rintro l pre x W ⟨⟨c0, c1, c2⟩, hB⟩ _
    have y0 : W.cell? ⟨g, 0, none⟩ = some (.int .i64 (lastV pre)) := c0.cell 0
    have y1 : W.cell? ⟨g + 1, 0, none⟩ = some (.int .i64 (lastM pre)) := c1.cell 0
    have y2 : W.cell? ⟨g + 1 + 1, 0, none⟩ = some (.bool (decide (0 < pre.length))) := c2.cell 0
    have z0 : W.frozen? ⟨g, 0, none⟩ = false := c0.frozen 0
    have z1 : W.frozen? ⟨g + 1, 0, none⟩ = false := c1.frozen 0
    have z2 : W.frozen? ⟨g + 1 + 1, 0, none⟩ = false := c2.frozen 0
    have C0 := Lib.hid c0
    have C1 := Lib.hid c1
    have C2 := Lib.hid c2
    clear c0 c1 c2
    gi_wp2
    have hnK : ∀ j, g ≤ j → j < g + 3 → ¬ WalkK (g + 1 + 1 + 1) p sv j := by
      rintro j h1 h2 (h3 | h3)
      · omega
      · have := hold j h3; omega
    refine ⟨((KeepsOthers.setCell _ _ _).trans ((KeepsOthers.setCell _ _ _).trans (KeepsOthers.setCell _ _ _))).from _, (((KeepK.refl _ W).setCell (hnK _ (Nat.le_refl _) (by show g < g + 3; omega)) _).setCell (hnK _ (by simp) (by simp)) _).setCell (hnK _ (by simp; omega) (by simp)) _, ⟨?_, ?_, ?_⟩, ((hB.setCell (p := ⟨g, 0, none⟩) (by show w.heap.size ≤ g; omega) _).setCell (p := ⟨g + 1, 0, none⟩) (by simp [hg]) _).setCell (p := ⟨g + 1 + 1, 0, none⟩) (by simp [hg]; omega) _⟩
    · rw [lastV_snoc]
      exact ((C0.out.set_ 0 (.int .i64 x.v)).far (by show g ≠ g + 1; omega) _).far (by show g ≠ g + 1 + 1; omega) _
    · rw [lastM_snoc]
      exact ((C1.out.far (p := ⟨g, 0, none⟩) (by show g + 1 ≠ g; omega) _).set_ 0 (.int .i64 x.n)).far (by show g + 1 ≠ g + 1 + 1; omega) _
    · have hd : decide (0 < (pre ++ [x]).length) = true := by simp
      rw [hd]
      exact ((C2.out.far (p := ⟨g, 0, none⟩) (by show g + 1 + 1 ≠ g; omega) _).far (p := ⟨g + 1, 0, none⟩) (by show g + 1 + 1 ≠ g + 1; omega) _).set_ 0 (.bool true)
  case done =>
    rintro D ys W hD rfl ⟨⟨c0, c1, c2⟩, hB⟩ hK
    have y0 : W.cell? ⟨g, 0, none⟩ = some (.int .i64 (lastV ys)) := c0.cell 0
    have y1 : W.cell? ⟨g + 1, 0, none⟩ = some (.int .i64 (lastM ys)) := c1.cell 0
    have y2 : W.cell? ⟨g + 1 + 1, 0, none⟩ = some (.bool (decide (0 < ys.length))) := c2.cell 0
    have z0 : W.frozen? ⟨g, 0, none⟩ = false := c0.frozen 0
    have z1 : W.frozen? ⟨g + 1, 0, none⟩ = false := c1.frozen 0
    have z2 : W.frozen? ⟨g + 1 + 1, 0, none⟩ = false := c2.frozen 0
    have C0 := Lib.hid c0
    have C1 := Lib.hid c1
    have C2 := Lib.hid c2
    have w0 := setCell_self c0
    have w1 := setCell_self c1
    have w2 := setCell_self c2
    have w0' := setCell_self (w := W.drew) c0
    have w1' := setCell_self (w := W.drew) c1
    have w2' := setCell_self (w := W.drew) c2
    clear c0 c1 c2 b0 b1 b2 b3
    gi_wp2
    refine wpIn_wide.2 ?_
    go_region_held3 (fun W' => W'.cell? ⟨g, 0, none⟩ = some (.int .i64 (lastV ys)) ∧ W'.cell? ⟨g + 1, 0, none⟩ = some (.int .i64 (lastM ys)) ∧ W'.cell? ⟨g + 1 + 1, 0, none⟩ = some (.bool (decide (0 < ys.length))) ∧ W'.frozen? ⟨g, 0, none⟩ = false ∧ W'.frozen? ⟨g + 1, 0, none⟩ = false ∧ W'.frozen? ⟨g + 1 + 1, 0, none⟩ = false) (go_keep) (fail)
    clear w0 w1 w2 w0' w1' w2'
    gi_wp2
    have hK' : W.drew.heap[D]? = some (.deferred (some [])) := hK
    refine ⟨by simp, .inl ⟨_, _, rfl, run_takeDeferred hK', ?_⟩⟩
    have e0 : (W.drew.putObj D (.deferred none)).cell? ⟨g, 0, none⟩ = some (.int .i64 (lastV ys)) := (blk_put (W := W.drew) (o := .deferred (some [])) C0.out hK' rfl (.deferred none)).cell 0
    have e1 : (W.drew.putObj D (.deferred none)).cell? ⟨g + 1, 0, none⟩ = some (.int .i64 (lastM ys)) := (blk_put (W := W.drew) (o := .deferred (some [])) C1.out hK' rfl (.deferred none)).cell 0
    have e2 : (W.drew.putObj D (.deferred none)).cell? ⟨g + 1 + 1, 0, none⟩ = some (.bool (decide (0 < ys.length))) := (blk_put (W := W.drew) (o := .deferred (some [])) C2.out hK' rfl (.deferred none)).cell 0
    refine ⟨.tuple #[.int .i64 (lastV ys), .int .i64 (lastM ys), .bool (decide (0 < ys.length))], ?_, rfl, hB.drew.trans (belowK_b (w := w) (Nat.le_refl _) W.drew D _ _ (by rw [hs0] at hD; omega) hK' rfl rfl)⟩
    simp [results, Tryz.f87, go_sem, e0, e1, e2]
  case stop =>
    rintro D c pre W _ _ h _
    exact h.elim
end NI
end Go.Proofs.YtflkddllofeiaaaGreatDoor
