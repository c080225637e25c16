/- Chains of numbers (printed by gen_chains10.py out of XChain, XChain2, XChain3). -/
import Derived.Test.YtmljiegeingpeaaDoorChain3
namespace Go.Proofs.YtmljiegeingpeaaDoor
set_option linter.unusedSimpArgs false
set_option linter.unusedVariables false
namespace CI
open Go.RowKit

abbrev VerS := Ver Int
def VerS.cs (x : VerS) : List Value := [.int .i64 x.n, .int .i64 x.v]
def versC (l : List VerS) : List Value := l.flatMap VerS.cs
theorem VerS.len (x : VerS) : (VerS.cs x).length = 2 := rfl
theorem vers_at {w : World} {B : Nat} {A : Option Addr} {xs : List VerS} (h : Reads w B 2 A xs.length (versC xs)) {k : Nat} (hk : k < xs.length) :
    ∃ ad, A = some ad ∧ ad.block < B ∧ w.cell? (ad.add (k * 2)) = some (.int .i64 xs[k].n) ∧ w.cell? ⟨(ad.add (k * 2)).block, (ad.add (k * 2)).off + 1, none⟩ = some (.int .i64 xs[k].v) := by
  obtain ⟨ad, e, hb, h0, h1⟩ := Reads.elem VerS.len h hk
  exact ⟨ad, e, hb, h0 _ rfl, h1 1 _ (by omega) rfl⟩

/-- The chain's order: 1 above, -1 else. -/
theorem above1_calls (x : VerS) (n : Int) (w : World) : Calls Tryd.prog 62 #[.agg #[.int .i64 x.n, .int .i64 x.v], .int .i64 n] w fun e w' => e = .returned (.int .i64 (if n < x.n then 1 else -1)) ∧ Below w.heap.size w w' := by
  go_enter Tryd.func62, Tryd.ntmps62
  by_cases h : n < x.n
  · rw [if_pos h]
    go_wp2
    go_ret
    exact ⟨rfl, (Below.refl _ _).alloc (Nat.le_refl _) _⟩
  · rw [if_neg h]
    have h' : x.n ≤ n := by omega
    go_wp2
    go_ret
    exact ⟨rfl, (Below.refl _ _).alloc (Nat.le_refl _) _⟩

set_option maxRecDepth 100000 in
set_option maxHeartbeats 4000000 in
theorem bs_calls (L : List VerS) (hu : UpV L) (A : Option Addr) (c : Nat) (n : Int) (w : World) (hr : Reads w w.heap.size 2 A L.length (versC L)) (hlen : L.length ≤ 4611686018427387904) :
    Calls Tryd.prog 61 #[.slice A L.length c, .int .i64 n, .func (.func 62) #[] #[]] w
      fun e w' => e = .returned (.tuple #[.int .i64 (leN L n), .bool false]) ∧ Below w.heap.size w w' := by
  go_enter Tryd.func61, Tryd.ntmps61
  go_wp2_with (fail)
  go_loopw [9, 10] (fun i j wr => ∃ a b : Nat, i = .int .i64 a ∧ j = .int .i64 b ∧ a ≤ b ∧ b ≤ L.length ∧ (∀ k (hk : k < L.length), k < a → L[k].n ≤ n) ∧ (∀ k (hk : k < L.length), b ≤ k → n < L[k].n) ∧ Below w.heap.size w wr) (fun i j _ => (intOf j).toNat - (intOf i).toNat)
  case atStart => exact ⟨0, L.length, rfl, rfl, by omega, by omega, fun k _ h => absurd h (by omega), fun k hk h => absurd hk (by omega), Below.refl _ _⟩
  case round =>
    obtain ⟨a, b, rfl, rfl, hab, hbl, h1, h2, B⟩ := hrel
    have H1 := Lib.hid h1
    have H2 := Lib.hid h2
    have HU := Lib.hid hu
    clear h1 h2
    by_cases hlt : a < b
    · have hil : (a : Int) < b := by omega
      have hhl : (a + b) / 2 < L.length := by omega
      obtain ⟨ad, rfl, hadb, e0, e1⟩ := vers_at (hr.below B) hhl
      generalize hx : L[(a + b) / 2] = x at e0 e1
      have HX := Lib.hid hx
      clear hx hr
      have hn0 : (0 : Int) ≤ (a : Int) := by omega
      have hn1 : (0 : Int) ≤ (b : Int) := by omega
      by_cases hc : n < x.n
      · have hc' : (if n < x.n then (1 : Int) else -1) = 1 := if_pos hc
        go_wp2_with (go_at_call 62; refine (above1_calls x n wr).mono ?_; rintro e w1 ⟨rfl, hb1⟩)
        refine ⟨⟨a, (a + b) / 2, rfl, by go_num, by omega, by omega, H1.out, fun k hk hle => ?_, B.trans (hb1.mono B.size)⟩, by simp [intOf]; omega⟩
        have := hu.le hle hk
        rw [HX.out] at this
        omega
      · have hc' : (if n < x.n then (1 : Int) else -1) = -1 := if_neg hc
        go_wp2_with (go_at_call 62; refine (above1_calls x n wr).mono ?_; rintro e w1 ⟨rfl, hb1⟩)
        refine ⟨⟨(a + b) / 2 + 1, b, by go_num, rfl, by omega, by omega, fun k hk hle => ?_, H2.out, B.trans (hb1.mono B.size)⟩, by simp [intOf]; omega⟩
        have := hu.le (i := k) (j := (a + b) / 2) (by omega) (by omega)
        rw [HX.out] at this
        omega
    · obtain rfl : a = b := by omega
      have HLE := Lib.hid (le_split hbl H1.out H2.out)
      by_cases hal : a < L.length
      · obtain ⟨ad, rfl, hadb, e0, e1⟩ := vers_at (hr.below B) hal
        have hx2 := H2.out a hal (Nat.le_refl _)
        have hc' : (if n < L[a].n then (1 : Int) else -1) = 1 := if_pos hx2
        have hal' : (a : Int) < L.length := by omega
        generalize L[a] = x at e0 e1 hc'
        clear hr hx2
        go_wp2_with (go_at_call 62; refine (above1_calls x n wr).mono ?_; rintro e w1 ⟨rfl, hb1⟩)
        go_ret2
        exact ⟨by rw [HLE.out]; rfl, B.trans (hb1.mono B.size)⟩
      · obtain rfl : a = L.length := by omega
        go_wp2
        go_ret2
        exact ⟨by rw [HLE.out]; rfl, B⟩

/-- A chain that lies at p, its row in sv. -/
structure Chn (w : World) (p : Nat) (sv : Value) (L : List VerS) : Prop where
  blk : Blk w p 83 #[sv]
  row : w.ownsRow 0 91 2 sv L.length (versC L)
  up : UpV L
  len : L.length ≤ 5864062014805
section
variable {w w' : World} {p : Nat} {sv : Value} {L : List VerS}
theorem Chn.below (h : Chn w p sv L) (hb : Below w.heap.size w w') : Chn w' p sv L := ⟨h.blk.below hb h.blk.lt, own_below h.row hb, h.up, h.len⟩
theorem Chn.alloc (h : Chn w p sv L) (o : Obj) : Chn (w.alloc o) p sv L := h.below ((Below.refl _ _).alloc (Nat.le_refl _) _)
end

set_option maxRecDepth 100000 in
set_option maxHeartbeats 2000000 in
theorem above_calls {p : Nat} {sv : Value} {L : List VerS} (n : Int) (w : World) (h : Chn w p sv L) : Calls Tryd.prog 39 #[.pointer (some ⟨p, 0, none⟩), .int .i64 n] w
    fun e w' => e = .returned (.int .i64 (leN L n)) ∧ Below w.heap.size w w' := by
  obtain ⟨A, c, rfl⟩ := own_slice h.row
  have c0 : w.cell? ⟨p, 0, none⟩ = some (.slice A L.length c) := h.blk.cell 0
  have hr := Reads.of_own h.row
  go_enter Tryd.func39, Tryd.ntmps39
  go_wp2_with (go_at_call 61; refine (bs_calls L h.up A c n w hr (by have := h.len; omega)).mono ?_; rintro e w1 ⟨rfl, hb1⟩)
  go_ret
  exact ⟨rfl, hb1⟩

set_option maxRecDepth 100000 in
set_option maxHeartbeats 2000000 in
theorem len_calls {p : Nat} {sv : Value} {L : List VerS} (w : World) (h : Chn w p sv L) : Calls Tryd.prog 45 #[.pointer (some ⟨p, 0, none⟩)] w
    fun e w' => e = .returned (.int .i64 L.length) ∧ w' = w := by
  obtain ⟨A, c, rfl⟩ := own_slice h.row
  have c0 : w.cell? ⟨p, 0, none⟩ = some (.slice A L.length c) := h.blk.cell 0
  go_enter Tryd.func45, Tryd.ntmps45
  go_wp2
  go_ret
  exact ⟨rfl, rfl⟩

/-- What counts at a number. -/
def atV (L : List VerS) (n : Int) : Int := if leN L n = 0 then (0 : Int) else ((L[leN L n - 1]?).map (·.v)).getD (0 : Int)
set_option maxRecDepth 100000 in
set_option maxHeartbeats 2000000 in
theorem at_calls {p : Nat} {sv : Value} {L : List VerS} (n : Int) (w : World) (h : Chn w p sv L) : Calls Tryd.prog 43 #[.pointer (some ⟨p, 0, none⟩), .int .i64 n] w
    fun e w' => e = .returned (.tuple #[.int .i64 (atV L n), .bool (decide (0 < leN L n))]) ∧ Below w.heap.size w w' := by
  obtain ⟨A, c, rfl⟩ := own_slice h.row
  have hr := Reads.of_own h.row
  go_enter Tryd.func43, Tryd.ntmps43
  have hle := leN_le L n
  have c0 : w.cell? ⟨p, 0, none⟩ = some (.slice A L.length c) := h.blk.cell 0
  have HLE := Lib.hid hle
  by_cases hm : leN L n = 0
  · have ha : atV L n = (0 : Int) := if_pos hm
    have hd : decide (0 < leN L n) = false := by simp [hm]
    rw [ha, hd]
    have hm' : ((leN L n : Nat) : Int) = 0 := by omega
    have HM := Lib.hid hm
    clear ha hd hr hle hm c0
    go_wp2_with (go_at_call 39; refine (above_calls n w h).mono ?_; rintro e w1 ⟨rfl, hb1⟩; rw [HM.out])
    go_ret2
    exact ⟨rfl, hb1⟩
  · obtain ⟨m, hm2⟩ : ∃ m, leN L n = m + 1 := ⟨leN L n - 1, by omega⟩
    have hml : m < L.length := by omega
    have ha : atV L n = L[m].v := by unfold atV; rw [if_neg hm, show leN L n - 1 = m by omega, List.getElem?_eq_getElem hml]; rfl
    have hd : decide (0 < leN L n) = true := by simp; omega
    rw [ha, hd]
    obtain ⟨ad, rfl, hadb, e0, e1⟩ := vers_at hr hml
    have HM := Lib.hid hm2
    have hlen := h.len
    have hmn : (m : Int) < 5864062014806 := by omega
    generalize L[m] = x at e0 e1 ⊢
    clear ha hd hr hle hm hm2 HLE
    go_wp2_with (go_at_call 39; refine (above_calls n w h).mono ?_; rintro e w1 ⟨rfl, hb1⟩; rw [HM.out]; have c1 := cell_below hb1 c0; have f0 := cell_below hb1 e0; have f1 := cell_below hb1 e1)
    go_ret2
    exact ⟨rfl, hb1⟩
section
variable {w w' : World} {S : Nat → Prop} {p : Nat} {sv : Value} {L : List VerS}
theorem Chn.but (h : Chn w p sv L) (hb : But w w' S) (hS : ∀ i, OfC p sv i → ¬ S i) : Chn w' p sv L :=
  ⟨h.blk.but hb (hS p (.inl rfl)), own_but h.row hb (fun b he => hS b (.inr he)), h.up, h.len⟩
theorem Chn.of_lt (h : Chn w p sv L) {i : Nat} (hi : OfC p sv i) : i < w.heap.size := by
  rcases hi with rfl | hi
  · exact h.blk.lt
  · exact own_lt h.row hi
end
theorem infoVers : (Tryd.prog.info? 91).map (fun i => (i.zero, i.size, i.bytes)) = some (some (.agg #[.int .i64 0, .int .i64 0]), 2, 16) := by kernel_rfl

set_option maxRecDepth 100000 in
set_option maxHeartbeats 2000000 in
theorem newChain_calls (w : World) : Calls Tryd.prog 14 #[] w fun e w' => e = .returned (.pointer (some ⟨w.heap.size, 0, none⟩)) ∧ Chn w' w.heap.size (.slice none 0 0) [] ∧ Below w.heap.size w w' := by
  go_enter Tryd.func14, Tryd.ntmps14
  go_wp2
  go_ret
  exact ⟨rfl, ⟨Blk.new _ _ _, World.ownsRow_nil _ _ _ _, UpV.nil, by simp⟩, (Below.refl _ _).alloc (Nat.le_refl _) _⟩

theorem put_done {w w2 : World} {p : Nat} {sv sv' : Value} {L : List VerS} {x : VerS} {o : Obj} (h : Chn w p sv L) (hown : w2.ownsRow 0 91 2 sv' (L.length + 1) (versC L ++ VerS.cs x)) (hg : (w.alloc o).grownBy w2 sv.ownBlock)
    (hat : sv'.ownBlock = sv.ownBlock ∨ sv'.ownBlock = some (w.alloc o).heap.size) (hk : Blk w2 p 83 #[sv]) (hx : lastNo L < x.n) (h0 : 0 ≤ x.n) (hlen : L.length < 5864062014805) :
    Chn (w2.setCell ⟨p, 0, none⟩ sv') p sv' (L ++ [x]) ∧ But w (w2.setCell ⟨p, 0, none⟩ sv') (OfC p sv) ∧ (∀ b, sv'.ownBlock = some b → sv.ownBlock = some b ∨ w.heap.size ≤ b) := by
  have hne : sv'.ownBlock ≠ some p := own_blk_ne hown hk (by decide)
  have e1 : (L ++ [x]).length = L.length + 1 := by simp
  have e2 : versC (L ++ [x]) = versC L ++ VerS.cs x := by simp [versC]
  have hb : But w w2 (OfC p sv) := ((But.refl w _).alloc o).grown hg (fun i _ he => .inr he)
  refine ⟨⟨?_, ?_, h.up.snoc hx h0, by rw [e1]; omega⟩, hb.setCell (fun _ => .inl rfl) _, ?_⟩
  · have := Blk.set_ hk 0 sv'
    exact this
  · rw [e1, e2]
    refine own_but hown ((But.refl w2 (fun i => i = p)).setCell (fun _ => rfl) _) (fun b hb he => hne (by rw [hb, he]))
  · intro b hb
    rcases hat with h1 | h1
    · exact .inl (by rw [← h1]; exact hb)
    · rw [h1] at hb
      cases hb
      exact .inr (by simp)
set_option maxRecDepth 100000 in
set_option maxHeartbeats 4000000 in
theorem put_calls {p : Nat} {sv : Value} {L : List VerS} (n : Int) (v : Int) (w : World) (h : Chn w p sv L) (hlen : L.length < 5864062014805) :
    Calls Tryd.prog 19 #[.pointer (some ⟨p, 0, none⟩), .int .i64 n, .int .i64 v] w
      fun e w' => ∃ sv', e = .returned (errV (putE L n)) ∧ Chn w' p sv' (putL L ⟨n, v⟩) ∧ But w w' (OfC p sv) ∧ (∀ b, sv'.ownBlock = some b → sv.ownBlock = some b ∨ w.heap.size ≤ b) := by
  obtain ⟨i0, hi0, hz0, hz1, hz2⟩ := info_parts infoVers
  obtain ⟨A, c, rfl⟩ := own_slice h.row
  have c0 : w.cell? ⟨p, 0, none⟩ = some (.slice A L.length c) := h.blk.cell 0
  have z0 : w.frozen? ⟨p, 0, none⟩ = false := h.blk.frozen 0
  have hr := Reads.of_own h.row
  have H := Lib.hid h
  go_enter Tryd.func19, Tryd.ntmps19
  by_cases hm : mayPut L n = true
  · have hm2 : lastNo L < n ∧ 0 ≤ n := by simpa [mayPut] using hm
    obtain ⟨hm3, hm4⟩ := hm2
    have e1 : putE L n = 0 := by simp [putE, hm]
    have e2 : putL L ⟨n, v⟩ = L ++ [⟨n, v⟩] := by simp [putL, hm]
    rw [e1, e2, errV_zero]
    have HM := Lib.hid hm3
    have HM4 := Lib.hid hm4
    clear e1 e2 hm hm3
    by_cases hl : 0 < L.length
    · obtain ⟨m, hm5⟩ : ∃ m, L.length = m + 1 := ⟨L.length - 1, by omega⟩
      have hml : m < L.length := by omega
      have hlast : L[m].n < n := by have := HM.out; rw [lastNo_pos hl] at this; simpa [hm5] using this
      obtain ⟨ad, rfl, hadb, f0, f1⟩ := vers_at hr hml
      have hl' : (0 : Int) < L.length := by omega
      generalize L[m].n = y at hlast f0
      have HM5 := Lib.hid hm5
      have e3 : ((L.length : Nat) : Int) - 1 = m := by omega
      clear hr f1 hm5 hml hl
      go_wp2_with (first | (at_builtin; refine wpList_append_own_at _ rfl (.tmp 37) (.tmp 41) 81 rfl 0 91 i0 _ 2 16 Tryd.underlying81 hi0 hz0 hz1 hz2 rfl (by decide) _ L.length (versC L) rfl (H.out.row.alloc _) ⟨w.heap.size, 0, none⟩ 1 1 [.int .i64 n, .int .i64 v] rfl rfl ?_ ?_ ?_ ?_ ?_ ?_; exact new_cells w 91 [.int .i64 n, .int .i64 v]; (simp [Value.oneCell']); ( unfold maxLen; omega); ( omega); (simp); intro v1 w2 hown2 hg2 _ hat2; have k2 := Blk.grown (H.out.blk.alloc _) hg2 (Ne.symm (own_blk_ne H.out.row H.out.blk (by decide))); have c2 : w2.cell? ⟨p, 0, none⟩ = some (.slice (some ad) L.length c) := Blk.cell k2 0; have z2 : w2.frozen? ⟨p, 0, none⟩ = false := Blk.frozen k2 0; obtain ⟨BA, bc, rfl⟩ := own_slice hown2; have K2 := Lib.hid k2; clear k2))
      go_ret
      obtain ⟨k1, k2, k3⟩ := put_done (x := ⟨n, v⟩) H.out hown2 hg2 hat2 K2.out HM.out HM4.out hlen
      exact ⟨_, rfl, k1, k2, k3⟩
    · obtain rfl : L = [] := List.eq_nil_of_length_eq_zero (by omega)
      clear hr hl
      go_wp2_with (first | (at_builtin; refine wpList_append_own_at _ rfl (.tmp 37) (.tmp 41) 81 rfl 0 91 i0 _ 2 16 Tryd.underlying81 hi0 hz0 hz1 hz2 rfl (by decide) _ 0 (versC []) rfl (H.out.row.alloc _) ⟨w.heap.size, 0, none⟩ 1 1 [.int .i64 n, .int .i64 v] rfl rfl ?_ ?_ ?_ ?_ ?_ ?_; exact new_cells w 91 [.int .i64 n, .int .i64 v]; (simp [Value.oneCell']); ( unfold maxLen; omega); ( omega); (simp); intro v1 w2 hown2 hg2 _ hat2; have k2 := Blk.grown (H.out.blk.alloc _) hg2 (Ne.symm (own_blk_ne H.out.row H.out.blk (by decide))); have c2 : w2.cell? ⟨p, 0, none⟩ = some (.slice A 0 c) := Blk.cell k2 0; have z2 : w2.frozen? ⟨p, 0, none⟩ = false := Blk.frozen k2 0; obtain ⟨BA, bc, rfl⟩ := own_slice hown2; have K2 := Lib.hid k2; clear k2))
      go_ret
      obtain ⟨k1, k2, k3⟩ := put_done (x := ⟨n, v⟩) H.out hown2 hg2 hat2 K2.out HM.out HM4.out hlen
      exact ⟨_, rfl, k1, k2, k3⟩
  · have e1 : putE L n = 1 := by simp [putE, hm]
    have e2 : putL L ⟨n, v⟩ = L := by simp [putL, hm]
    rw [e1, e2, errV_pos (by omega)]
    have hm2 : ¬ (lastNo L < n ∧ 0 ≤ n) := by simpa [mayPut] using hm
    clear e1 e2 hm
    by_cases hn : n < 0
    · clear hm2 hr
      go_wp2_with (fail)
      go_ret
      exact ⟨_, rfl, H.out, But.refl _ _, fun b hb => .inl hb⟩
    · have hn0 : 0 ≤ n := by omega
      have hl : 0 < L.length := by
        rcases Nat.eq_zero_or_pos L.length with h0 | h0
        · exfalso
          have : L = [] := List.eq_nil_of_length_eq_zero h0
          subst this
          exact hm2 ⟨by simp [lastNo]; omega, hn0⟩
        · exact h0
      obtain ⟨m, hm5⟩ : ∃ m, L.length = m + 1 := ⟨L.length - 1, by omega⟩
      have hml : m < L.length := by omega
      have hlast : n ≤ L[m].n := by
        have h3 : ¬ lastNo L < n := fun h4 => hm2 ⟨h4, hn0⟩
        rw [lastNo_pos hl] at h3
        simp [hm5] at h3
        exact h3
      obtain ⟨ad, rfl, hadb, f0, f1⟩ := vers_at hr hml
      generalize L[m].n = y at hlast f0
      have hl' : (0 : Int) < L.length := by omega
      have e3 : ((L.length : Nat) : Int) - 1 = m := by omega
      clear hr f1 hm5 hml hl hm2 hn
      go_wp2_with (fail)
      go_ret
      exact ⟨_, rfl, H.out, But.refl _ _, fun b hb => .inl hb⟩

theorem vers_one (xs : List VerS) : ∀ u ∈ versC xs, u.oneCell' = true := by
  intro u hu
  obtain ⟨x, _, hx⟩ := List.mem_flatMap.1 hu
  simp [VerS.cs] at hx
  rcases hx with rfl | rfl <;> rfl
theorem reads_drop {w : World} {B : Nat} {ad : Addr} {L : List VerS} {m : Nat} (h : Reads w B 2 (some ad) L.length (versC L)) (hm : m ≤ L.length) : Reads w B 2 (some (ad.add (m * 2))) (L.drop m).length (versC (L.drop m)) := by
  have hd : (versC L).drop (m * 2) = versC (L.drop m) := flat_drop VerS.len L m
  refine ⟨flat_length VerS.len _, fun h0 => ?_⟩
  simp at h0
  obtain ⟨ad2, e, hb, hc⟩ := h.2 (by omega)
  cases e
  refine ⟨_, rfl, by rw [block_of_add]; exact hb, fun j u hu => ?_⟩
  rw [add_of_add]
  rw [← hd, List.getElem?_drop] at hu
  exact hc _ _ hu
set_option maxRecDepth 100000 in
set_option maxHeartbeats 2000000 in
theorem clone_calls (xs : List VerS) (ad : Addr) (c : Nat) (w : World) (hr : Reads w w.heap.size 2 (some ad) xs.length (versC xs)) (h0 : 0 < xs.length) (hlen : xs.length ≤ 5864062014805) :
    Calls Tryd.prog 40 #[.slice (some ad) xs.length c] w
      fun e w' => ∃ v, e = .returned v ∧ w'.ownsRow w.heap.size 91 2 v xs.length (versC xs) ∧ Below w.heap.size w w' := by
  obtain ⟨i0, hi0, hz0, hz1, hz2⟩ := info_parts infoVers
  have hl : (versC xs).length = xs.length * 2 := hr.1
  obtain ⟨ad2, e, hb, hc⟩ := hr.2 h0
  cases e
  have heq := fun W => run_eql_slice_nil (P := Tryd.prog) W _ _ (some ad) xs.length c Tryd.underlying81
  have HC := Lib.hid hc
  have HL := Lib.hid hl
  clear hr hc hl
  go_enter Tryd.func40, Tryd.ntmps40
  go_wp2_with (first | (at_builtin; refine wpList_append_own_at _ rfl (.tmp 5) (.tmp 6) 81 rfl w.heap.size 91 i0 _ 2 16 Tryd.underlying81 hi0 hz0 hz1 hz2 rfl (by decide) _ 0 [] rfl (own_empty w _ _ _ (Nat.le_refl _)) ad xs.length c (versC xs) rfl HL.out ?_ (vers_one xs) ?_ ?_ ?_ ?_; (intro j u hu; exact (World.cell?_alloc_lt w _ _ (by rw [block_of_add]; exact hb)).trans (HC.out j u hu)); (unfold maxLen; omega); (omega); (simp); intro v1 w2 hown2 hg2 _ hat2))
  go_ret
  refine ⟨_, rfl, by simpa using hown2, ?_⟩
  exact ((Below.refl _ _).alloc (Nat.le_refl _) _).grown hg2 (by simp) (fun k hk => by cases hk; exact Nat.le_refl _)

set_option maxRecDepth 100000 in
set_option maxHeartbeats 2000000 in
theorem prune_calls {p : Nat} {sv : Value} {L : List VerS} (n : Int) (w : World) (h : Chn w p sv L) :
    Calls Tryd.prog 23 #[.pointer (some ⟨p, 0, none⟩), .int .i64 n] w
      fun e w' => ∃ sv', e = .returned (.int .i64 (pruneN L n)) ∧ Chn w' p sv' (pruneL L n) ∧ But w w' (OfC p sv) ∧ (∀ b, sv'.ownBlock = some b → sv.ownBlock = some b ∨ w.heap.size ≤ b) := by
  have H := Lib.hid h
  have hle := leN_le L n
  by_cases hm : leN L n < 2
  · have e1 : pruneN L n = 0 := if_pos hm
    have e2 : pruneL L n = L := if_pos hm
    rw [e1, e2]
    have hm' : ((leN L n : Nat) : Int) < 2 := by omega
    clear e1 e2 hm hle
    go_enter Tryd.func23, Tryd.ntmps23
    go_wp2_with (go_at_call 39; refine (above_calls n w h).mono ?_; rintro e w1 ⟨rfl, hb1⟩)
    go_ret
    exact ⟨_, rfl, H.out.below hb1, But.of_below hb1 _, fun b hb => .inl hb⟩
  · obtain ⟨m, hm2⟩ : ∃ m, leN L n = m + 1 := ⟨leN L n - 1, by omega⟩
    have e1 : pruneN L n = m := by unfold pruneN; rw [if_neg hm]; omega
    have e2 : pruneL L n = L.drop m := by unfold pruneL; rw [if_neg hm, show leN L n - 1 = m by omega]
    rw [e1, e2]
    obtain ⟨A, c, rfl⟩ := own_slice h.row
    have c0 : w.cell? ⟨p, 0, none⟩ = some (.slice A L.length c) := h.blk.cell 0
    have hr := Reads.of_own h.row
    have hcap : L.length ≤ c := own_capn h.row
    have hml : m < L.length := by omega
    have hlen := h.len
    have hm1 : 1 ≤ m := by omega
    obtain ⟨ad, rfl, _⟩ := hr.2 (by omega)
    have hd : (L.drop m).length = L.length - m := by simp
    have HD := Lib.hid hd
    have HR := Lib.hid hr
    have HM := Lib.hid hm2
    have hmi : (1 : Int) ≤ m := by omega
    clear e1 e2 hm hle hr hd hm2
    go_enter Tryd.func23, Tryd.ntmps23
    go_wp2_with (go_at_call 39; refine (above_calls n w h).mono ?_; rintro e w1 ⟨rfl, hb1⟩; rw [HM.out]; have c1 := cell_below hb1 c0)
    have hr1 : Reads w1 w1.heap.size 2 (some (ad.add (m * 2))) (L.drop m).length (versC (L.drop m)) := (reads_drop ((HR.out.below hb1).more hb1.size) (by omega))
    rw [← HD.out]
    refine (clone_calls (L.drop m) (ad.add (m * 2)) (c - m) w1 hr1 (by rw [HD.out]; omega) (by rw [HD.out]; omega)).mono ?_
    rintro e w2 ⟨v, rfl, hown, hb2⟩
    rw [HD.out] at hown
    obtain ⟨BA, bc, rfl⟩ := own_slice hown
    have hk2 := (H.out.blk.below hb1 H.out.blk.lt).below hb2 (H.out.below hb1).blk.lt
    have z2 : w2.frozen? ⟨p, 0, none⟩ = false := hk2.frozen 0
    have c2 : w2.cell? ⟨p, 0, none⟩ = some (.slice (some ad) L.length c) := hk2.cell 0
    have K2 := Lib.hid hk2
    have HO := Lib.hid hown
    clear hk2 hown hr1
    go_wp2
    go_ret
    have hne : (Value.slice BA (L.length - m) bc).ownBlock ≠ some p := own_blk_ne HO.out K2.out (by decide)
    have hb : But w w2 (OfC p (.slice (some ad) L.length c)) := But.of_below (hb1.trans (hb2.mono hb1.size)) _
    refine ⟨_, rfl, ⟨Blk.set_ K2.out 0 _, ?_, H.out.up.drop m, by rw [HD.out]; omega⟩, hb.setCell (fun _ => .inl rfl) _, fun b hb => .inr ?_⟩
    · rw [HD.out]
      refine own_but (S := fun i => i = p) ?_ ((But.refl w2 (fun i => i = p)).setCell (fun _ => rfl) _) (fun b hb he => hne (by rw [hb, he]))
      exact own_base0 HO.out
    · exact Nat.le_trans hb1.size (own_base HO.out hb)
end CI
end Go.Proofs.YtmljiegeingpeaaDoor
