/- Chains of texts: what their calls read. -/
import Derived.Test.YtflkddllofeiaaaGreatDoorVer
import Derived.Test.YtflkddllofeiaaaGreatDoorBase
import Derived.Test.YtflkddllofeiaaaGreatDoorErr
import Derived.Test.YtflkddllofeiaaaGreatDoorList
import Derived.Test.YtflkddllofeiaaaGreatDoorKit0
import Derived.Test.YtflkddllofeiaaaGreatDoorWide
import Derived.Test.YtflkddllofeiaaaGreatDoorPlain
import Derived.Lib.LazyBuf
namespace Go.Proofs.YtflkddllofeiaaaGreatDoor
set_option linter.unusedSimpArgs false
set_option linter.unusedVariables false
open Go.RowKit

abbrev VerS := Ver ByteArray
def VerS.cs (x : VerS) : List Value := [.int .i64 x.n, .string x.v]
def versC (l : List VerS) : List Value := l.flatMap VerS.cs
theorem VerS.len (x : VerS) : (VerS.cs x).length = 2 := rfl
theorem vers_at {w : World} {B : Nat} {A : Option Addr} {xs : List VerS} (h : Reads w B 2 A xs.length (versC xs)) {k : Nat} (hk : k < xs.length) :
    ∃ ad, A = some ad ∧ ad.block < B ∧ w.cell? (ad.add (k * 2)) = some (.int .i64 xs[k].n) ∧ w.cell? ⟨(ad.add (k * 2)).block, (ad.add (k * 2)).off + 1, none⟩ = some (.string xs[k].v) := by
  obtain ⟨ad, e, hb, h0, h1⟩ := Reads.elem VerS.len h hk
  exact ⟨ad, e, hb, h0 _ rfl, h1 1 _ (by omega) rfl⟩

/-- The chain's order: 1 above, -1 else. -/
theorem above1_calls (x : VerS) (n : Int) (w : World) : Calls Tryz.prog 118 #[.agg #[.int .i64 x.n, .string x.v], .int .i64 n] w fun e w' => e = .returned (.int .i64 (if n < x.n then 1 else -1)) ∧ Below w.heap.size w w' := by
  go_enter Tryz.func118, Tryz.ntmps118
  by_cases h : n < x.n
  · rw [if_pos h]
    go_wp2
    go_ret
    exact ⟨rfl, (Below.refl _ _).alloc (Nat.le_refl _) _⟩
  · rw [if_neg h]
    have h' : x.n ≤ n := by omega
    go_wp2
    go_ret
    exact ⟨rfl, (Below.refl _ _).alloc (Nat.le_refl _) _⟩

set_option maxRecDepth 100000 in
set_option maxHeartbeats 4000000 in
theorem bs_calls (L : List VerS) (hu : UpV L) (A : Option Addr) (c : Nat) (n : Int) (w : World) (hr : Reads w w.heap.size 2 A L.length (versC L)) (hlen : L.length ≤ 4611686018427387904) :
    Calls Tryz.prog 117 #[.slice A L.length c, .int .i64 n, .func (.func 118) #[] #[]] w
      fun e w' => e = .returned (.tuple #[.int .i64 (leN L n), .bool false]) ∧ Below w.heap.size w w' := by
  go_enter Tryz.func117, Tryz.ntmps117
  go_wp2_with (fail)
  go_loopw [9, 10] (fun i j wr => ∃ a b : Nat, i = .int .i64 a ∧ j = .int .i64 b ∧ a ≤ b ∧ b ≤ L.length ∧ (∀ k (hk : k < L.length), k < a → L[k].n ≤ n) ∧ (∀ k (hk : k < L.length), b ≤ k → n < L[k].n) ∧ Below w.heap.size w wr) (fun i j _ => (intOf j).toNat - (intOf i).toNat)
  case atStart => exact ⟨0, L.length, rfl, rfl, by omega, by omega, fun k _ h => absurd h (by omega), fun k hk h => absurd hk (by omega), Below.refl _ _⟩
  case round =>
    obtain ⟨a, b, rfl, rfl, hab, hbl, h1, h2, B⟩ := hrel
    have H1 := Lib.hid h1
    have H2 := Lib.hid h2
    have HU := Lib.hid hu
    clear h1 h2
    by_cases hlt : a < b
    · have hil : (a : Int) < b := by omega
      have hhl : (a + b) / 2 < L.length := by omega
      obtain ⟨ad, rfl, hadb, e0, e1⟩ := vers_at (hr.below B) hhl
      generalize hx : L[(a + b) / 2] = x at e0 e1
      have HX := Lib.hid hx
      clear hx hr
      have hn0 : (0 : Int) ≤ (a : Int) := by omega
      have hn1 : (0 : Int) ≤ (b : Int) := by omega
      by_cases hc : n < x.n
      · have hc' : (if n < x.n then (1 : Int) else -1) = 1 := if_pos hc
        go_wp2_with (go_at_call 118; refine (above1_calls x n wr).mono ?_; rintro e w1 ⟨rfl, hb1⟩)
        refine ⟨⟨a, (a + b) / 2, rfl, by go_num, by omega, by omega, H1.out, fun k hk hle => ?_, B.trans (hb1.mono B.size)⟩, by simp [intOf]; omega⟩
        have := hu.le hle hk
        rw [HX.out] at this
        omega
      · have hc' : (if n < x.n then (1 : Int) else -1) = -1 := if_neg hc
        go_wp2_with (go_at_call 118; refine (above1_calls x n wr).mono ?_; rintro e w1 ⟨rfl, hb1⟩)
        refine ⟨⟨(a + b) / 2 + 1, b, by go_num, rfl, by omega, by omega, fun k hk hle => ?_, H2.out, B.trans (hb1.mono B.size)⟩, by simp [intOf]; omega⟩
        have := hu.le (i := k) (j := (a + b) / 2) (by omega) (by omega)
        rw [HX.out] at this
        omega
    · obtain rfl : a = b := by omega
      have HLE := Lib.hid (le_split hbl H1.out H2.out)
      by_cases hal : a < L.length
      · obtain ⟨ad, rfl, hadb, e0, e1⟩ := vers_at (hr.below B) hal
        have hx2 := H2.out a hal (Nat.le_refl _)
        have hc' : (if n < L[a].n then (1 : Int) else -1) = 1 := if_pos hx2
        have hal' : (a : Int) < L.length := by omega
        generalize L[a] = x at e0 e1 hc'
        clear hr hx2
        go_wp2_with (go_at_call 118; refine (above1_calls x n wr).mono ?_; rintro e w1 ⟨rfl, hb1⟩)
        go_ret2
        exact ⟨by rw [HLE.out]; rfl, B.trans (hb1.mono B.size)⟩
      · obtain rfl : a = L.length := by omega
        go_wp2
        go_ret2
        exact ⟨by rw [HLE.out]; rfl, B⟩

/-- A chain that lies at p, its row in sv. -/
structure Chn (w : World) (p : Nat) (sv : Value) (L : List VerS) : Prop where
  blk : Blk w p 121 #[sv]
  row : w.ownsRow 0 133 2 sv L.length (versC L)
  up : UpV L
  len : L.length ≤ 9382499223000
section
variable {w w' : World} {p : Nat} {sv : Value} {L : List VerS}
theorem Chn.below (h : Chn w p sv L) (hb : Below w.heap.size w w') : Chn w' p sv L := ⟨h.blk.below hb h.blk.lt, own_below h.row hb, h.up, h.len⟩
theorem Chn.alloc (h : Chn w p sv L) (o : Obj) : Chn (w.alloc o) p sv L := h.below ((Below.refl _ _).alloc (Nat.le_refl _) _)
theorem own_slice {w : World} {base : Nat} {e : TypeId} {size n : Nat} {v : Value} {xs : List Value} (h : w.ownsRow base e size v n xs) : ∃ A c, v = .slice A n c := by
  rcases h.2 with h0 | ⟨g, cap, cur, rfl, _⟩
  · exact ⟨none, 0, by rw [h0.1, h0.2]⟩
  · exact ⟨_, _, rfl⟩
end

set_option maxRecDepth 100000 in
set_option maxHeartbeats 2000000 in
theorem above_calls {p : Nat} {sv : Value} {L : List VerS} (n : Int) (w : World) (h : Chn w p sv L) : Calls Tryz.prog 96 #[.pointer (some ⟨p, 0, none⟩), .int .i64 n] w
    fun e w' => e = .returned (.int .i64 (leN L n)) ∧ Below w.heap.size w w' := by
  obtain ⟨A, c, rfl⟩ := own_slice h.row
  have c0 : w.cell? ⟨p, 0, none⟩ = some (.slice A L.length c) := h.blk.cell 0
  have hr := Reads.of_own h.row
  go_enter Tryz.func96, Tryz.ntmps96
  go_wp2_with (go_at_call 117; refine (bs_calls L h.up A c n w hr (by have := h.len; omega)).mono ?_; rintro e w1 ⟨rfl, hb1⟩)
  go_ret
  exact ⟨rfl, hb1⟩

set_option maxRecDepth 100000 in
set_option maxHeartbeats 2000000 in
theorem len_calls {p : Nat} {sv : Value} {L : List VerS} (w : World) (h : Chn w p sv L) : Calls Tryz.prog 49 #[.pointer (some ⟨p, 0, none⟩)] w
    fun e w' => e = .returned (.int .i64 L.length) ∧ w' = w := by
  obtain ⟨A, c, rfl⟩ := own_slice h.row
  have c0 : w.cell? ⟨p, 0, none⟩ = some (.slice A L.length c) := h.blk.cell 0
  go_enter Tryz.func49, Tryz.ntmps49
  go_wp2
  go_ret
  exact ⟨rfl, rfl⟩

/-- What counts at a number. -/
def atV (L : List VerS) (n : Int) : ByteArray := if leN L n = 0 then ByteArray.empty else ((L[leN L n - 1]?).map (·.v)).getD ByteArray.empty
set_option maxRecDepth 100000 in
set_option maxHeartbeats 2000000 in
theorem at_calls {p : Nat} {sv : Value} {L : List VerS} (n : Int) (w : World) (h : Chn w p sv L) : Calls Tryz.prog 70 #[.pointer (some ⟨p, 0, none⟩), .int .i64 n] w
    fun e w' => e = .returned (.tuple #[.string (atV L n), .bool (decide (0 < leN L n))]) ∧ Below w.heap.size w w' := by
  obtain ⟨A, c, rfl⟩ := own_slice h.row
  have hr := Reads.of_own h.row
  go_enter Tryz.func70, Tryz.ntmps70
  have hle := leN_le L n
  have c0 : w.cell? ⟨p, 0, none⟩ = some (.slice A L.length c) := h.blk.cell 0
  have HLE := Lib.hid hle
  by_cases hm : leN L n = 0
  · have ha : atV L n = ByteArray.empty := if_pos hm
    have hd : decide (0 < leN L n) = false := by simp [hm]
    rw [ha, hd]
    have hm' : ((leN L n : Nat) : Int) = 0 := by omega
    have HM := Lib.hid hm
    clear ha hd hr hle hm c0
    go_wp2_with (go_at_call 96; refine (above_calls n w h).mono ?_; rintro e w1 ⟨rfl, hb1⟩; rw [HM.out])
    go_ret2
    exact ⟨rfl, hb1⟩
  · obtain ⟨m, hm2⟩ : ∃ m, leN L n = m + 1 := ⟨leN L n - 1, by omega⟩
    have hml : m < L.length := by omega
    have ha : atV L n = L[m].v := by unfold atV; rw [if_neg hm, show leN L n - 1 = m by omega, List.getElem?_eq_getElem hml]; rfl
    have hd : decide (0 < leN L n) = true := by simp; omega
    rw [ha, hd]
    obtain ⟨ad, rfl, hadb, e0, e1⟩ := vers_at hr hml
    have HM := Lib.hid hm2
    have hlen := h.len
    have hmn : (m : Int) < 9382499223001 := by omega
    generalize L[m] = x at e0 e1 ⊢
    clear ha hd hr hle hm hm2 HLE
    go_wp2_with (go_at_call 96; refine (above_calls n w h).mono ?_; rintro e w1 ⟨rfl, hb1⟩; rw [HM.out]; have c1 := cell_below hb1 c0; have f0 := cell_below hb1 e0; have f1 := cell_below hb1 e1)
    go_ret2
    exact ⟨rfl, hb1⟩
end Go.Proofs.YtflkddllofeiaaaGreatDoor

/- Chains of texts: what their calls write. -/
namespace Go.Proofs.YtflkddllofeiaaaGreatDoor
open Go.RowKit

/-- Nothing that lay before has turned, but the blocks of S. -/
structure But (w w' : World) (S : Nat → Prop) : Prop where
  os : w'.os = w.os
  tape : w'.tape = w.tape
  output : w'.output = w.output
  size : w.heap.size ≤ w'.heap.size
  block : ∀ k, k < w.heap.size → ¬ S k → w'.heap[k]? = w.heap[k]?
section
variable {a b c w w' : World} {S S' : Nat → Prop}
theorem But.refl (w : World) (S : Nat → Prop) : But w w S := ⟨rfl, rfl, rfl, Nat.le_refl _, fun _ _ _ => rfl⟩
theorem But.of_below (h : Below w.heap.size w w') (S : Nat → Prop) : But w w' S := ⟨h.os, h.tape, h.output, h.size, fun k hk _ => h.block k hk⟩
theorem But.below (h : But w w' (fun _ => False)) : Below w.heap.size w w' := ⟨h.os, h.tape, h.output, h.size, fun k hk => h.block k hk (fun h => h)⟩
theorem But.trans (h : But a b S) (k : But b c S') (hS : ∀ i, i < a.heap.size → S' i → S i) : But a c S :=
  ⟨k.os.trans h.os, k.tape.trans h.tape, k.output.trans h.output, Nat.le_trans h.size k.size, fun i hi hn => (k.block i (Nat.lt_of_lt_of_le hi h.size) (fun hs => hn (hS i hi hs))).trans (h.block i hi hn)⟩
theorem But.weak (h : But a b S) (hS : ∀ i, i < a.heap.size → S i → S' i) : But a b S' := ⟨h.os, h.tape, h.output, h.size, fun i hi hn => h.block i hi (fun hs => hn (hS i hi hs))⟩
theorem But.grown {row : Option Nat} (h : But a b S) (hg : b.grownBy c row) (hr : ∀ i, i < a.heap.size → row = some i → S i) : But a c S :=
  ⟨hg.os.trans h.os, hg.tape.trans h.tape, hg.output.trans h.output, Nat.le_trans h.size hg.size, fun i hi hn => (hg.block i (Nat.lt_of_lt_of_le hi h.size) (fun e => hn (hr i hi e.symm))).trans (h.block i hi hn)⟩
theorem But.alloc (h : But a b S) (o : Obj) : But a (b.alloc o) S := h.trans (S' := S) (But.of_below ((Below.refl _ _).alloc (Nat.le_refl _) _) S) (fun _ _ h => h)
theorem But.setCell (h : But a b S) {p : Addr} (hp : p.block < a.heap.size → S p.block) (u : Value) : But a (b.setCell p u) S :=
  ⟨h.os, h.tape, h.output, by simpa using h.size, fun i hi hn => by
    have hne : i ≠ p.block := fun he => hn (he ▸ hp (he ▸ hi))
    exact (Below.heap_setCell b p u i hne).trans (h.block i hi hn)⟩
theorem Blk.but {g : Nat} {t : TypeId} {cs : Array Value} (h : Blk w g t cs) (hb : But w w' S) (hg : ¬ S g) : Blk w' g t cs := (hb.block g h.lt hg).trans h
theorem own_but {base : Nat} {e : TypeId} {size n : Nat} {v : Value} {xs : List Value} (h : w.ownsRow base e size v n xs) (hb : But w w' S) (hs : ∀ b, v.ownBlock = some b → ¬ S b) : w'.ownsRow base e size v n xs := by
  refine ⟨h.1, ?_⟩
  rcases h.2 with h0 | ⟨g, cap, cur, rfl, h1, h2, h3⟩
  · exact .inl h0
  · exact .inr ⟨g, cap, cur, rfl, h1, (hb.block g (Array.getElem?_eq_some_iff.1 h2).1 (hs g rfl)).trans h2, h3⟩
theorem own_lt {base : Nat} {e : TypeId} {size n : Nat} {v : Value} {xs : List Value} (h : w.ownsRow base e size v n xs) {k : Nat} (hk : v.ownBlock = some k) : k < w.heap.size := by
  rcases h.2 with h0 | ⟨g, cap, cur, rfl, h1, h2, h3⟩
  · rw [h0.1] at hk; cases hk
  · cases hk; exact (Array.getElem?_eq_some_iff.1 h2).1
end

/-- The blocks of a chain. -/
def OfC (p : Nat) (sv : Value) (i : Nat) : Prop := i = p ∨ sv.ownBlock = some i
section
variable {w w' : World} {S : Nat → Prop} {p : Nat} {sv : Value} {L : List VerS}
theorem Chn.but (h : Chn w p sv L) (hb : But w w' S) (hS : ∀ i, OfC p sv i → ¬ S i) : Chn w' p sv L :=
  ⟨h.blk.but hb (hS p (.inl rfl)), own_but h.row hb (fun b he => hS b (.inr he)), h.up, h.len⟩
theorem Chn.of_lt (h : Chn w p sv L) {i : Nat} (hi : OfC p sv i) : i < w.heap.size := by
  rcases hi with rfl | hi
  · exact h.blk.lt
  · exact own_lt h.row hi
end
theorem infoVers : (Tryz.prog.info? 133).map (fun i => (i.zero, i.size, i.bytes)) = some (some (.agg #[.int .i64 0, .string ⟨#[]⟩]), 2, 24) := by kernel_rfl

set_option maxRecDepth 100000 in
set_option maxHeartbeats 2000000 in
theorem newChain_calls (w : World) : Calls Tryz.prog 65 #[] w fun e w' => e = .returned (.pointer (some ⟨w.heap.size, 0, none⟩)) ∧ Chn w' w.heap.size (.slice none 0 0) [] ∧ Below w.heap.size w w' := by
  go_enter Tryz.func65, Tryz.ntmps65
  go_wp2
  go_ret
  exact ⟨rfl, ⟨Blk.new _ _ _, World.ownsRow_nil _ _ _ _, UpV.nil, by simp⟩, (Below.refl _ _).alloc (Nat.le_refl _) _⟩

theorem put_done {w w2 : World} {p : Nat} {sv sv' : Value} {L : List VerS} {x : VerS} {o : Obj} (h : Chn w p sv L) (hown : w2.ownsRow 0 133 2 sv' (L.length + 1) (versC L ++ VerS.cs x)) (hg : (w.alloc o).grownBy w2 sv.ownBlock)
    (hat : sv'.ownBlock = sv.ownBlock ∨ sv'.ownBlock = some (w.alloc o).heap.size) (hk : Blk w2 p 121 #[sv]) (hx : lastNo L < x.n) (h0 : 0 ≤ x.n) (hlen : L.length < 9382499223000) :
    Chn (w2.setCell ⟨p, 0, none⟩ sv') p sv' (L ++ [x]) ∧ But w (w2.setCell ⟨p, 0, none⟩ sv') (OfC p sv) ∧ (∀ b, sv'.ownBlock = some b → sv.ownBlock = some b ∨ w.heap.size ≤ b) := by
  have hne : sv'.ownBlock ≠ some p := own_blk_ne hown hk (by decide)
  have e1 : (L ++ [x]).length = L.length + 1 := by simp
  have e2 : versC (L ++ [x]) = versC L ++ VerS.cs x := by simp [versC]
  have hb : But w w2 (OfC p sv) := ((But.refl w _).alloc o).grown hg (fun i _ he => .inr he)
  refine ⟨⟨?_, ?_, h.up.snoc hx h0, by rw [e1]; omega⟩, hb.setCell (fun _ => .inl rfl) _, ?_⟩
  · have := Blk.set_ hk 0 sv'
    exact this
  · rw [e1, e2]
    refine own_but hown ((But.refl w2 (fun i => i = p)).setCell (fun _ => rfl) _) (fun b hb he => hne (by rw [hb, he]))
  · intro b hb
    rcases hat with h1 | h1
    · exact .inl (by rw [← h1]; exact hb)
    · rw [h1] at hb
      cases hb
      exact .inr (by simp)
set_option maxRecDepth 100000 in
set_option maxHeartbeats 4000000 in
theorem put_calls {p : Nat} {sv : Value} {L : List VerS} (n : Int) (v : ByteArray) (w : World) (h : Chn w p sv L) (hlen : L.length < 9382499223000) :
    Calls Tryz.prog 66 #[.pointer (some ⟨p, 0, none⟩), .int .i64 n, .string v] w
      fun e w' => ∃ sv', e = .returned (errV (putE L n)) ∧ Chn w' p sv' (putL L ⟨n, v⟩) ∧ But w w' (OfC p sv) ∧ (∀ b, sv'.ownBlock = some b → sv.ownBlock = some b ∨ w.heap.size ≤ b) := by
  obtain ⟨i0, hi0, hz0, hz1, hz2⟩ := info_parts infoVers
  obtain ⟨A, c, rfl⟩ := own_slice h.row
  have c0 : w.cell? ⟨p, 0, none⟩ = some (.slice A L.length c) := h.blk.cell 0
  have z0 : w.frozen? ⟨p, 0, none⟩ = false := h.blk.frozen 0
  have hr := Reads.of_own h.row
  have H := Lib.hid h
  go_enter Tryz.func66, Tryz.ntmps66
  by_cases hm : mayPut L n = true
  · have hm2 : lastNo L < n ∧ 0 ≤ n := by simpa [mayPut] using hm
    obtain ⟨hm3, hm4⟩ := hm2
    have e1 : putE L n = 0 := by simp [putE, hm]
    have e2 : putL L ⟨n, v⟩ = L ++ [⟨n, v⟩] := by simp [putL, hm]
    rw [e1, e2, errV_zero]
    have HM := Lib.hid hm3
    have HM4 := Lib.hid hm4
    clear e1 e2 hm hm3
    by_cases hl : 0 < L.length
    · obtain ⟨m, hm5⟩ : ∃ m, L.length = m + 1 := ⟨L.length - 1, by omega⟩
      have hml : m < L.length := by omega
      have hlast : L[m].n < n := by have := HM.out; rw [lastNo_pos hl] at this; simpa [hm5] using this
      obtain ⟨ad, rfl, hadb, f0, f1⟩ := vers_at hr hml
      have hl' : (0 : Int) < L.length := by omega
      generalize L[m].n = y at hlast f0
      have HM5 := Lib.hid hm5
      have e3 : ((L.length : Nat) : Int) - 1 = m := by omega
      clear hr f1 hm5 hml hl
      go_wp2_with (first | (at_builtin; refine wpList_append_wide_at _ rfl (.tmp 37) (.tmp 41) 119 rfl 0 133 i0 _ 2 24 Tryz.underlying119 hi0 hz0 hz1 hz2 rfl (by decide) _ L.length (versC L) rfl (H.out.row.alloc _) ⟨w.heap.size, 0, none⟩ 1 1 [.int .i64 n, .string v] rfl rfl ?_ ?_ ?_ ?_ ?_ ?_; exact new_cells w 133 [.int .i64 n, .string v]; (simp [Value.oneCell']); ( unfold maxLen; omega); ( omega); (simp); intro v1 w2 hown2 hg2 _ hat2; have k2 := Blk.grown (H.out.blk.alloc _) hg2 (Ne.symm (own_blk_ne H.out.row H.out.blk (by decide))); have c2 : w2.cell? ⟨p, 0, none⟩ = some (.slice (some ad) L.length c) := Blk.cell k2 0; have z2 : w2.frozen? ⟨p, 0, none⟩ = false := Blk.frozen k2 0; obtain ⟨BA, bc, rfl⟩ := own_slice hown2; have K2 := Lib.hid k2; clear k2))
      go_ret
      obtain ⟨k1, k2, k3⟩ := put_done (x := ⟨n, v⟩) H.out hown2 hg2 hat2 K2.out HM.out HM4.out hlen
      exact ⟨_, rfl, k1, k2, k3⟩
    · obtain rfl : L = [] := List.eq_nil_of_length_eq_zero (by omega)
      clear hr hl
      go_wp2_with (first | (at_builtin; refine wpList_append_wide_at _ rfl (.tmp 37) (.tmp 41) 119 rfl 0 133 i0 _ 2 24 Tryz.underlying119 hi0 hz0 hz1 hz2 rfl (by decide) _ 0 (versC []) rfl (H.out.row.alloc _) ⟨w.heap.size, 0, none⟩ 1 1 [.int .i64 n, .string v] rfl rfl ?_ ?_ ?_ ?_ ?_ ?_; exact new_cells w 133 [.int .i64 n, .string v]; (simp [Value.oneCell']); ( unfold maxLen; omega); ( omega); (simp); intro v1 w2 hown2 hg2 _ hat2; have k2 := Blk.grown (H.out.blk.alloc _) hg2 (Ne.symm (own_blk_ne H.out.row H.out.blk (by decide))); have c2 : w2.cell? ⟨p, 0, none⟩ = some (.slice A 0 c) := Blk.cell k2 0; have z2 : w2.frozen? ⟨p, 0, none⟩ = false := Blk.frozen k2 0; obtain ⟨BA, bc, rfl⟩ := own_slice hown2; have K2 := Lib.hid k2; clear k2))
      go_ret
      obtain ⟨k1, k2, k3⟩ := put_done (x := ⟨n, v⟩) H.out hown2 hg2 hat2 K2.out HM.out HM4.out hlen
      exact ⟨_, rfl, k1, k2, k3⟩
  · have e1 : putE L n = 1 := by simp [putE, hm]
    have e2 : putL L ⟨n, v⟩ = L := by simp [putL, hm]
    rw [e1, e2, errV_pos (by omega)]
    have hm2 : ¬ (lastNo L < n ∧ 0 ≤ n) := by simpa [mayPut] using hm
    clear e1 e2 hm
    by_cases hn : n < 0
    · clear hm2 hr
      go_wp2_with (fail)
      go_ret
      exact ⟨_, rfl, H.out, But.refl _ _, fun b hb => .inl hb⟩
    · have hn0 : 0 ≤ n := by omega
      have hl : 0 < L.length := by
        rcases Nat.eq_zero_or_pos L.length with h0 | h0
        · exfalso
          have : L = [] := List.eq_nil_of_length_eq_zero h0
          subst this
          exact hm2 ⟨by simp [lastNo]; omega, hn0⟩
        · exact h0
      obtain ⟨m, hm5⟩ : ∃ m, L.length = m + 1 := ⟨L.length - 1, by omega⟩
      have hml : m < L.length := by omega
      have hlast : n ≤ L[m].n := by
        have h3 : ¬ lastNo L < n := fun h4 => hm2 ⟨h4, hn0⟩
        rw [lastNo_pos hl] at h3
        simp [hm5] at h3
        exact h3
      obtain ⟨ad, rfl, hadb, f0, f1⟩ := vers_at hr hml
      generalize L[m].n = y at hlast f0
      have hl' : (0 : Int) < L.length := by omega
      have e3 : ((L.length : Nat) : Int) - 1 = m := by omega
      clear hr f1 hm5 hml hl hm2 hn
      go_wp2_with (fail)
      go_ret
      exact ⟨_, rfl, H.out, But.refl _ _, fun b hb => .inl hb⟩
end Go.Proofs.YtflkddllofeiaaaGreatDoor

/- Chains of texts: slices.Clone, Prune. -/
namespace Go.Proofs.YtflkddllofeiaaaGreatDoor
open Go.RowKit

theorem vers_one (xs : List VerS) : ∀ u ∈ versC xs, u.oneCell' = true := by
  intro u hu
  obtain ⟨x, _, hx⟩ := List.mem_flatMap.1 hu
  simp [VerS.cs] at hx
  rcases hx with rfl | rfl <;> rfl
theorem own_empty (w : World) (t : TypeId) (s : Nat) (B : Nat) (hB : B ≤ w.heap.size) : (w.alloc (.cells #[] t)).ownsRow B t s (.slice (some ⟨w.heap.size, 0, none⟩) 0 0) 0 [] :=
  ⟨by simp, .inr ⟨w.heap.size, 0, #[], rfl, hB, heap_alloc_new w _, Nat.le_refl _, by unfold maxLen; omega, by simp, by simp⟩⟩

theorem own_base0 {w : World} {base : Nat} {e : TypeId} {size n : Nat} {v : Value} {xs : List Value} (h : w.ownsRow base e size v n xs) : w.ownsRow 0 e size v n xs := by
  refine ⟨h.1, ?_⟩
  rcases h.2 with h0 | ⟨g, cap, cur, he, h1, h2⟩
  · exact .inl h0
  · exact .inr ⟨g, cap, cur, he, Nat.zero_le _, h2⟩
theorem reads_drop {w : World} {B : Nat} {ad : Addr} {L : List VerS} {m : Nat} (h : Reads w B 2 (some ad) L.length (versC L)) (hm : m ≤ L.length) : Reads w B 2 (some (ad.add (m * 2))) (L.drop m).length (versC (L.drop m)) := by
  have hd : (versC L).drop (m * 2) = versC (L.drop m) := flat_drop VerS.len L m
  refine ⟨flat_length VerS.len _, fun h0 => ?_⟩
  simp at h0
  obtain ⟨ad2, e, hb, hc⟩ := h.2 (by omega)
  cases e
  refine ⟨_, rfl, by rw [block_of_add]; exact hb, fun j u hu => ?_⟩
  rw [add_of_add]
  rw [← hd, List.getElem?_drop] at hu
  exact hc _ _ hu
theorem own_capn {w : World} {base : Nat} {e : TypeId} {size n c : Nat} {A : Option Addr} {xs : List Value} (h : w.ownsRow base e size (.slice A n c) n xs) : n ≤ c := by
  rcases h.2 with h0 | ⟨g, cap, cur, he, h1, h2, h3, _⟩
  · obtain ⟨h1, h2⟩ := h0; injection h1 with _ h3 h4; omega
  · cases he; exact h3

set_option maxRecDepth 100000 in
set_option maxHeartbeats 2000000 in
theorem clone_calls (xs : List VerS) (ad : Addr) (c : Nat) (w : World) (hr : Reads w w.heap.size 2 (some ad) xs.length (versC xs)) (h0 : 0 < xs.length) (hlen : xs.length ≤ 9382499223000) :
    Calls Tryz.prog 97 #[.slice (some ad) xs.length c] w
      fun e w' => ∃ v, e = .returned v ∧ w'.ownsRow w.heap.size 133 2 v xs.length (versC xs) ∧ Below w.heap.size w w' := by
  obtain ⟨i0, hi0, hz0, hz1, hz2⟩ := info_parts infoVers
  have hl : (versC xs).length = xs.length * 2 := hr.1
  obtain ⟨ad2, e, hb, hc⟩ := hr.2 h0
  cases e
  have heq := fun W => run_eql_slice_nil (P := Tryz.prog) W _ _ (some ad) xs.length c Tryz.underlying119
  have HC := Lib.hid hc
  have HL := Lib.hid hl
  clear hr hc hl
  go_enter Tryz.func97, Tryz.ntmps97
  go_wp2_with (first | (at_builtin; refine wpList_append_wide_at _ rfl (.tmp 5) (.tmp 6) 119 rfl w.heap.size 133 i0 _ 2 24 Tryz.underlying119 hi0 hz0 hz1 hz2 rfl (by decide) _ 0 [] rfl (own_empty w _ _ _ (Nat.le_refl _)) ad xs.length c (versC xs) rfl HL.out ?_ (vers_one xs) ?_ ?_ ?_ ?_; (intro j u hu; exact (World.cell?_alloc_lt w _ _ (by rw [block_of_add]; exact hb)).trans (HC.out j u hu)); (unfold maxLen; omega); (omega); (simp); intro v1 w2 hown2 hg2 _ hat2))
  go_ret
  refine ⟨_, rfl, by simpa using hown2, ?_⟩
  exact ((Below.refl _ _).alloc (Nat.le_refl _) _).grown hg2 (by simp) (fun k hk => by cases hk; exact Nat.le_refl _)

set_option maxRecDepth 100000 in
set_option maxHeartbeats 2000000 in
theorem prune_calls {p : Nat} {sv : Value} {L : List VerS} (n : Int) (w : World) (h : Chn w p sv L) :
    Calls Tryz.prog 71 #[.pointer (some ⟨p, 0, none⟩), .int .i64 n] w
      fun e w' => ∃ sv', e = .returned (.int .i64 (pruneN L n)) ∧ Chn w' p sv' (pruneL L n) ∧ But w w' (OfC p sv) ∧ (∀ b, sv'.ownBlock = some b → sv.ownBlock = some b ∨ w.heap.size ≤ b) := by
  have H := Lib.hid h
  have hle := leN_le L n
  by_cases hm : leN L n < 2
  · have e1 : pruneN L n = 0 := if_pos hm
    have e2 : pruneL L n = L := if_pos hm
    rw [e1, e2]
    have hm' : ((leN L n : Nat) : Int) < 2 := by omega
    clear e1 e2 hm hle
    go_enter Tryz.func71, Tryz.ntmps71
    go_wp2_with (go_at_call 96; refine (above_calls n w h).mono ?_; rintro e w1 ⟨rfl, hb1⟩)
    go_ret
    exact ⟨_, rfl, H.out.below hb1, But.of_below hb1 _, fun b hb => .inl hb⟩
  · obtain ⟨m, hm2⟩ : ∃ m, leN L n = m + 1 := ⟨leN L n - 1, by omega⟩
    have e1 : pruneN L n = m := by unfold pruneN; rw [if_neg hm]; omega
    have e2 : pruneL L n = L.drop m := by unfold pruneL; rw [if_neg hm, show leN L n - 1 = m by omega]
    rw [e1, e2]
    obtain ⟨A, c, rfl⟩ := own_slice h.row
    have c0 : w.cell? ⟨p, 0, none⟩ = some (.slice A L.length c) := h.blk.cell 0
    have hr := Reads.of_own h.row
    have hcap : L.length ≤ c := own_capn h.row
    have hml : m < L.length := by omega
    have hlen := h.len
    have hm1 : 1 ≤ m := by omega
    obtain ⟨ad, rfl, _⟩ := hr.2 (by omega)
    have hd : (L.drop m).length = L.length - m := by simp
    have HD := Lib.hid hd
    have HR := Lib.hid hr
    have HM := Lib.hid hm2
    have hmi : (1 : Int) ≤ m := by omega
    clear e1 e2 hm hle hr hd hm2
    go_enter Tryz.func71, Tryz.ntmps71
    go_wp2_with (go_at_call 96; refine (above_calls n w h).mono ?_; rintro e w1 ⟨rfl, hb1⟩; rw [HM.out]; have c1 := cell_below hb1 c0)
    have hr1 : Reads w1 w1.heap.size 2 (some (ad.add (m * 2))) (L.drop m).length (versC (L.drop m)) := (reads_drop ((HR.out.below hb1).more hb1.size) (by omega))
    rw [← HD.out]
    refine (clone_calls (L.drop m) (ad.add (m * 2)) (c - m) w1 hr1 (by rw [HD.out]; omega) (by rw [HD.out]; omega)).mono ?_
    rintro e w2 ⟨v, rfl, hown, hb2⟩
    rw [HD.out] at hown
    obtain ⟨BA, bc, rfl⟩ := own_slice hown
    have hk2 := (H.out.blk.below hb1 H.out.blk.lt).below hb2 (H.out.below hb1).blk.lt
    have z2 : w2.frozen? ⟨p, 0, none⟩ = false := hk2.frozen 0
    have c2 : w2.cell? ⟨p, 0, none⟩ = some (.slice (some ad) L.length c) := hk2.cell 0
    have K2 := Lib.hid hk2
    have HO := Lib.hid hown
    clear hk2 hown hr1
    go_wp2
    go_ret
    have hne : (Value.slice BA (L.length - m) bc).ownBlock ≠ some p := own_blk_ne HO.out K2.out (by decide)
    have hb : But w w2 (OfC p (.slice (some ad) L.length c)) := But.of_below (hb1.trans (hb2.mono hb1.size)) _
    refine ⟨_, rfl, ⟨Blk.set_ K2.out 0 _, ?_, H.out.up.drop m, by rw [HD.out]; omega⟩, hb.setCell (fun _ => .inl rfl) _, fun b hb => .inr ?_⟩
    · rw [HD.out]
      refine own_but (S := fun i => i = p) ?_ ((But.refl w2 (fun i => i = p)).setCell (fun _ => rfl) _) (fun b hb he => hne (by rw [hb, he]))
      exact own_base0 HO.out
    · exact Nat.le_trans hb1.size (own_base HO.out hb)
end Go.Proofs.YtflkddllofeiaaaGreatDoor
