/- Chains of texts: what their calls read. -/
import Derived.Test.YtflkddllofeiaaaDoorVer
import Derived.Test.YtflkddllofeiaaaDoorBase
import Derived.Test.YtflkddllofeiaaaDoorErr
import Derived.Test.YtflkddllofeiaaaDoorList
import Derived.Test.YtflkddllofeiaaaDoorKit0
namespace Go.Proofs.YtflkddllofeiaaaDoor
set_option linter.unusedSimpArgs false
set_option linter.unusedVariables false
open Go.RowKit

abbrev VerS := Ver ByteArray
def VerS.cs (x : VerS) : List Value := [.int .i64 x.n, .string x.v]
def versC (l : List VerS) : List Value := l.flatMap VerS.cs
theorem VerS.len (x : VerS) : (VerS.cs x).length = 2 := rfl
theorem vers_at {w : World} {B : Nat} {A : Option Addr} {xs : List VerS} (h : Reads w B 2 A xs.length (versC xs)) {k : Nat} (hk : k < xs.length) :
    ∃ ad, A = some ad ∧ ad.block < B ∧ w.cell? (ad.add (k * 2)) = some (.int .i64 xs[k].n) ∧ w.cell? ⟨(ad.add (k * 2)).block, (ad.add (k * 2)).off + 1, none⟩ = some (.string xs[k].v) := by
  obtain ⟨ad, e, hb, h0, h1⟩ := Reads.elem VerS.len h hk
  exact ⟨ad, e, hb, h0 _ rfl, h1 1 _ (by omega) rfl⟩

/-- The chain's order: 1 above, -1 else. -/
theorem above1_calls (x : VerS) (n : Int) (w : World) : Calls Tryd.prog 64 #[.agg #[.int .i64 x.n, .string x.v], .int .i64 n] w fun e w' => e = .returned (.int .i64 (if n < x.n then 1 else -1)) ∧ Below w.heap.size w w' := by
  go_enter Tryd.func64, Tryd.ntmps64
  by_cases h : n < x.n
  · rw [if_pos h]
    go_wp2
    go_ret
    exact ⟨rfl, (Below.refl _ _).alloc (Nat.le_refl _) _⟩
  · rw [if_neg h]
    have h' : x.n ≤ n := by omega
    go_wp2
    go_ret
    exact ⟨rfl, (Below.refl _ _).alloc (Nat.le_refl _) _⟩

set_option maxRecDepth 100000 in
set_option maxHeartbeats 4000000 in
theorem bs_calls (L : List VerS) (hu : UpV L) (A : Option Addr) (c : Nat) (n : Int) (w : World) (hr : Reads w w.heap.size 2 A L.length (versC L)) (hlen : L.length ≤ 4611686018427387904) :
    Calls Tryd.prog 63 #[.slice A L.length c, .int .i64 n, .func (.func 64) #[] #[]] w
      fun e w' => e = .returned (.tuple #[.int .i64 (leN L n), .bool false]) ∧ Below w.heap.size w w' := by
  go_enter Tryd.func63, Tryd.ntmps63
  go_wp2_with (fail)
  go_loopw [9, 10] (fun i j wr => ∃ a b : Nat, i = .int .i64 a ∧ j = .int .i64 b ∧ a ≤ b ∧ b ≤ L.length ∧ (∀ k (hk : k < L.length), k < a → L[k].n ≤ n) ∧ (∀ k (hk : k < L.length), b ≤ k → n < L[k].n) ∧ Below w.heap.size w wr) (fun i j _ => (intOf j).toNat - (intOf i).toNat)
  case atStart => exact ⟨0, L.length, rfl, rfl, by omega, by omega, fun k _ h => absurd h (by omega), fun k hk h => absurd hk (by omega), Below.refl _ _⟩
  case round =>
    obtain ⟨a, b, rfl, rfl, hab, hbl, h1, h2, B⟩ := hrel
    have H1 := Lib.hid h1
    have H2 := Lib.hid h2
    have HU := Lib.hid hu
    clear h1 h2
    by_cases hlt : a < b
    · have hil : (a : Int) < b := by omega
      have hhl : (a + b) / 2 < L.length := by omega
      obtain ⟨ad, rfl, hadb, e0, e1⟩ := vers_at (hr.below B) hhl
      generalize hx : L[(a + b) / 2] = x at e0 e1
      have HX := Lib.hid hx
      clear hx hr
      have hn0 : (0 : Int) ≤ (a : Int) := by omega
      have hn1 : (0 : Int) ≤ (b : Int) := by omega
      by_cases hc : n < x.n
      · have hc' : (if n < x.n then (1 : Int) else -1) = 1 := if_pos hc
        go_wp2_with (go_at_call 64; refine (above1_calls x n wr).mono ?_; rintro e w1 ⟨rfl, hb1⟩)
        refine ⟨⟨a, (a + b) / 2, rfl, by go_num, by omega, by omega, H1.out, fun k hk hle => ?_, B.trans (hb1.mono B.size)⟩, by simp [intOf]; omega⟩
        have := hu.le hle hk
        rw [HX.out] at this
        omega
      · have hc' : (if n < x.n then (1 : Int) else -1) = -1 := if_neg hc
        go_wp2_with (go_at_call 64; refine (above1_calls x n wr).mono ?_; rintro e w1 ⟨rfl, hb1⟩)
        refine ⟨⟨(a + b) / 2 + 1, b, by go_num, rfl, by omega, by omega, fun k hk hle => ?_, H2.out, B.trans (hb1.mono B.size)⟩, by simp [intOf]; omega⟩
        have := hu.le (i := k) (j := (a + b) / 2) (by omega) (by omega)
        rw [HX.out] at this
        omega
    · obtain rfl : a = b := by omega
      have HLE := Lib.hid (le_split hbl H1.out H2.out)
      by_cases hal : a < L.length
      · obtain ⟨ad, rfl, hadb, e0, e1⟩ := vers_at (hr.below B) hal
        have hx2 := H2.out a hal (Nat.le_refl _)
        have hc' : (if n < L[a].n then (1 : Int) else -1) = 1 := if_pos hx2
        have hal' : (a : Int) < L.length := by omega
        generalize L[a] = x at e0 e1 hc'
        clear hr hx2
        go_wp2_with (go_at_call 64; refine (above1_calls x n wr).mono ?_; rintro e w1 ⟨rfl, hb1⟩)
        go_ret2
        exact ⟨by rw [HLE.out]; rfl, B.trans (hb1.mono B.size)⟩
      · obtain rfl : a = L.length := by omega
        go_wp2
        go_ret2
        exact ⟨by rw [HLE.out]; rfl, B⟩

/-- A chain that lies at p, its row in sv. -/
structure Chn (w : World) (p : Nat) (sv : Value) (L : List VerS) : Prop where
  blk : Blk w p 88 #[sv]
  row : w.ownsRow 0 86 2 sv L.length (versC L)
  up : UpV L
  len : L.length ≤ 9382499223000
section
variable {w w' : World} {p : Nat} {sv : Value} {L : List VerS}
theorem Chn.below (h : Chn w p sv L) (hb : Below w.heap.size w w') : Chn w' p sv L := ⟨h.blk.below hb h.blk.lt, own_below h.row hb, h.up, h.len⟩
theorem Chn.alloc (h : Chn w p sv L) (o : Obj) : Chn (w.alloc o) p sv L := h.below ((Below.refl _ _).alloc (Nat.le_refl _) _)
theorem own_slice {w : World} {base : Nat} {e : TypeId} {size n : Nat} {v : Value} {xs : List Value} (h : w.ownsRow base e size v n xs) : ∃ A c, v = .slice A n c := by
  rcases h.2 with h0 | ⟨g, cap, cur, rfl, _⟩
  · exact ⟨none, 0, by rw [h0.1, h0.2]⟩
  · exact ⟨_, _, rfl⟩
end

set_option maxRecDepth 100000 in
set_option maxHeartbeats 2000000 in
theorem above_calls {p : Nat} {sv : Value} {L : List VerS} (n : Int) (w : World) (h : Chn w p sv L) : Calls Tryd.prog 44 #[.pointer (some ⟨p, 0, none⟩), .int .i64 n] w
    fun e w' => e = .returned (.int .i64 (leN L n)) ∧ Below w.heap.size w w' := by
  obtain ⟨A, c, rfl⟩ := own_slice h.row
  have c0 : w.cell? ⟨p, 0, none⟩ = some (.slice A L.length c) := h.blk.cell 0
  have hr := Reads.of_own h.row
  go_enter Tryd.func44, Tryd.ntmps44
  go_wp2_with (go_at_call 63; refine (bs_calls L h.up A c n w hr (by have := h.len; omega)).mono ?_; rintro e w1 ⟨rfl, hb1⟩)
  go_ret
  exact ⟨rfl, hb1⟩

set_option maxRecDepth 100000 in
set_option maxHeartbeats 2000000 in
theorem len_calls {p : Nat} {sv : Value} {L : List VerS} (w : World) (h : Chn w p sv L) : Calls Tryd.prog 35 #[.pointer (some ⟨p, 0, none⟩)] w
    fun e w' => e = .returned (.int .i64 L.length) ∧ w' = w := by
  obtain ⟨A, c, rfl⟩ := own_slice h.row
  have c0 : w.cell? ⟨p, 0, none⟩ = some (.slice A L.length c) := h.blk.cell 0
  go_enter Tryd.func35, Tryd.ntmps35
  go_wp2
  go_ret
  exact ⟨rfl, rfl⟩

/-- What counts at a number. -/
def atV (L : List VerS) (n : Int) : ByteArray := if leN L n = 0 then ByteArray.empty else ((L[leN L n - 1]?).map (·.v)).getD ByteArray.empty
set_option maxRecDepth 100000 in
set_option maxHeartbeats 2000000 in
theorem at_calls {p : Nat} {sv : Value} {L : List VerS} (n : Int) (w : World) (h : Chn w p sv L) : Calls Tryd.prog 40 #[.pointer (some ⟨p, 0, none⟩), .int .i64 n] w
    fun e w' => e = .returned (.tuple #[.string (atV L n), .bool (decide (0 < leN L n))]) ∧ Below w.heap.size w w' := by
  obtain ⟨A, c, rfl⟩ := own_slice h.row
  have hr := Reads.of_own h.row
  go_enter Tryd.func40, Tryd.ntmps40
  have hle := leN_le L n
  have c0 : w.cell? ⟨p, 0, none⟩ = some (.slice A L.length c) := h.blk.cell 0
  have HLE := Lib.hid hle
  by_cases hm : leN L n = 0
  · have ha : atV L n = ByteArray.empty := if_pos hm
    have hd : decide (0 < leN L n) = false := by simp [hm]
    rw [ha, hd]
    have hm' : ((leN L n : Nat) : Int) = 0 := by omega
    have HM := Lib.hid hm
    clear ha hd hr hle hm c0
    go_wp2_with (go_at_call 44; refine (above_calls n w h).mono ?_; rintro e w1 ⟨rfl, hb1⟩; rw [HM.out])
    go_ret2
    exact ⟨rfl, hb1⟩
  · obtain ⟨m, hm2⟩ : ∃ m, leN L n = m + 1 := ⟨leN L n - 1, by omega⟩
    have hml : m < L.length := by omega
    have ha : atV L n = L[m].v := by unfold atV; rw [if_neg hm, show leN L n - 1 = m by omega, List.getElem?_eq_getElem hml]; rfl
    have hd : decide (0 < leN L n) = true := by simp; omega
    rw [ha, hd]
    obtain ⟨ad, rfl, hadb, e0, e1⟩ := vers_at hr hml
    have HM := Lib.hid hm2
    have hlen := h.len
    have hmn : (m : Int) < 9382499223001 := by omega
    generalize L[m] = x at e0 e1 ⊢
    clear ha hd hr hle hm hm2 HLE
    go_wp2_with (go_at_call 44; refine (above_calls n w h).mono ?_; rintro e w1 ⟨rfl, hb1⟩; rw [HM.out]; have c1 := cell_below hb1 c0; have f0 := cell_below hb1 e0; have f1 := cell_below hb1 e1)
    go_ret2
    exact ⟨rfl, hb1⟩
end Go.Proofs.YtflkddllofeiaaaDoor
