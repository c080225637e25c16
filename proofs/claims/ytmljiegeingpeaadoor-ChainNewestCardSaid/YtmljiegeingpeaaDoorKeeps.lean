/- custodylaw10.ChainKeeps by a contract. -/
import Derived.Test.YtmljiegeingpeaaDoorWorks10
import Derived.Deep.DeepCutAuto
import Derived.Deep.CutBlock
namespace Go.Proofs.YtmljiegeingpeaaDoor
set_option linter.unusedSimpArgs false
set_option linter.unusedVariables false
open Go.RowKit Go.Shelf
attribute [local go_sem] Oper.semAt_some

/-- Three chains. -/
structure Tri (B : Nat) (W : World) (gn : Nat) (n : Int) (p q r : Nat) (s t u : Value) (X Y Z : List VerS) : Prop where
  bn : Blk W gn 3 #[.int .i64 n]
  x : Chn W p s X
  y : Chn W q t Y
  z : Chn W r u Z
  xy : ∀ i, OfC p s i → ¬ OfC q t i
  xz : ∀ i, OfC p s i → ¬ OfC r u i
  yz : ∀ i, OfC q t i → ¬ OfC r u i
  fx : ∀ i, OfC p s i → B ≤ i
  fy : ∀ i, OfC q t i → B ≤ i
  fz : ∀ i, OfC r u i → B ≤ i
section
variable {B gn : Nat} {W W' : World} {n : Int} {p q r : Nat} {s t u : Value} {X Y Z : List VerS}
theorem Tri.below (h : Tri B W gn n p q r s t u X Y Z) (hb : Below W.heap.size W W') : Tri B W' gn n p q r s t u X Y Z :=
  { h with bn := h.bn.below hb h.bn.lt, x := h.x.below hb, y := h.y.below hb, z := h.z.below hb }
theorem of_new {p : Nat} {s s' : Value} {m : Nat} (hs : ∀ b, s'.ownBlock = some b → s.ownBlock = some b ∨ m ≤ b) {i : Nat} (hi : OfC p s' i) : OfC p s i ∨ m ≤ i := by
  rcases hi with rfl | hi
  · exact .inl (.inl rfl)
  · exact (hs i hi).imp .inr id
theorem Tri.turnX (h : Tri B W gn n p q r s t u X Y Z) {s' : Value} {X' : List VerS} (hC : Chn W' p s' X') (hb : But W W' (OfC p s)) (hs : ∀ b, s'.ownBlock = some b → s.ownBlock = some b ∨ W.heap.size ≤ b) (hB : B ≤ W.heap.size) : Tri B W' gn n p q r s' t u X' Y Z :=
  ⟨h.bn.but hb (of_blk_ne h.bn h.x (by decide) (by decide)), hC, h.y.but hb (fun i hi h1 => h.xy i h1 hi), h.z.but hb (fun i hi h1 => h.xz i h1 hi),
    fun i hi h1 => (of_new hs hi).elim (fun h2 => h.xy i h2 h1) (fun h2 => by have := h.y.of_lt h1; omega),
    fun i hi h1 => (of_new hs hi).elim (fun h2 => h.xz i h2 h1) (fun h2 => by have := h.z.of_lt h1; omega), h.yz,
    fun i hi => (of_new hs hi).elim (fun h2 => h.fx i h2) (fun h2 => by omega), h.fy, h.fz⟩
theorem Tri.turnZ (h : Tri B W gn n p q r s t u X Y Z) {u' : Value} {Z' : List VerS} (hC : Chn W' r u' Z') (hb : But W W' (OfC r u)) (hs : ∀ b, u'.ownBlock = some b → u.ownBlock = some b ∨ W.heap.size ≤ b) (hB : B ≤ W.heap.size) : Tri B W' gn n p q r s t u' X Y Z' :=
  ⟨h.bn.but hb (of_blk_ne h.bn h.z (by decide) (by decide)), h.x.but hb (fun i hi h1 => h.xz i hi h1), h.y.but hb (fun i hi h1 => h.yz i hi h1), hC, h.xy,
    fun i h1 hi => (of_new hs hi).elim (fun h2 => h.xz i h1 h2) (fun h2 => by have := h.x.of_lt h1; omega),
    fun i h1 hi => (of_new hs hi).elim (fun h2 => h.yz i h1 h2) (fun h2 => by have := h.y.of_lt h1; omega),
    h.fx, h.fy, fun i hi => (of_new hs hi).elim (fun h2 => h.fz i h2) (fun h2 => by omega)⟩
end
theorem chn_kept {W W' : World} {p : Nat} {sv : Value} {L : List VerS} {row : Option Nat} (h : Chn W p sv L) (hg : W.grownBy W' row) (hr : ∀ r, row = some r → ∃ o : Obj, W.heap[r]? = some o ∧ o.isCells = false) : Chn W' p sv L :=
  ⟨blk_kept h.blk hg hr, own_kept2 h.row hg hr, h.up, h.len⟩
theorem Tri.kept {B gn : Nat} {W W' : World} {n : Int} {p q r : Nat} {s t u : Value} {X Y Z : List VerS} {row : Option Nat} (h : Tri B W gn n p q r s t u X Y Z) (hg : W.grownBy W' row) (hr : ∀ r, row = some r → ∃ o : Obj, W.heap[r]? = some o ∧ o.isCells = false) : Tri B W' gn n p q r s t u X Y Z :=
  { h with bn := blk_kept h.bn hg hr, x := chn_kept h.x hg hr, y := chn_kept h.y hg hr, z := chn_kept h.z hg hr }
theorem Tri.far {B gn g : Nat} {W : World} {n : Int} {p q r : Nat} {s t u : Value} {X Y Z : List VerS} {cs : Array Value} (h : Tri B W gn n p q r s t u X Y Z) (hb : Blk W g 3 cs) (hne : gn ≠ g) (v : Value) : Tri B (W.setCell ⟨g, 0, none⟩ v) gn n p q r s t u X Y Z :=
  { h with bn := h.bn.far hne v, x := chn_far hb h.x (by decide) (by decide), y := chn_far hb h.y (by decide) (by decide), z := chn_far hb h.z (by decide) (by decide) }
theorem not_of {W : World} {p D : Nat} {sv : Value} {L : List VerS} {o : Obj} (h : Chn W p sv L) (hk : W.heap[D]? = some o) (hn : o.isCells = false) : ¬ OfC p sv D := by
  rintro (rfl | he)
  · have h' : W.heap[D]? = some (.cells #[sv] 76 (0, 0)) := h.blk
    rw [h'] at hk; cases hk; cases hn
  · rcases h.row.2 with h0 | ⟨g, cap, cur, rfl, _, h2, _⟩
    · rw [h0.1] at he; cases he
    · cases he
      rw [h2] at hk; cases hk; cases hn
theorem leN_snoc (pre : List VerS) (x : VerS) (n : Int) : leN (pre ++ [x]) n = leN pre n + (if x.n ≤ n then 1 else 0) := by
  unfold leN
  rw [List.filter_append, List.length_append]
  by_cases h : x.n ≤ n <;> simp [h]
theorem putE_last {L : List VerS} : putE L (lastNo L) = 1 := by simp [putE, mayPut]
theorem putL_last {L : List VerS} (v : ByteArray) : putL L ⟨lastNo L, v⟩ = L := by simp [putL, mayPut]

set_option maxRecDepth 100000 in
set_option maxHeartbeats 8000000 in
theorem lawKeeps_calls (l : List ActS) (n more : Int) (looks : List Int) (A LA : Option Addr) (c lc : Nat) (w : World) (hr : Reads w w.heap.size 3 A l.length (actsC l)) (hrl : Reads w w.heap.size 1 LA looks.length (intsC looks))
    (hlen : l.length < 5864062014805) (hll : looks.length ≤ 17592186044416) (hG : HG w) :
    Calls Tryd.prog 6 #[.slice A l.length c, .int .i64 n, .int .i64 more, .slice LA looks.length lc] w fun e w' => e = .returned (.bool true) ∧ Below w.heap.size w w' := by
  refine (callsIn_wide (n := 3)).1 ?_
  refine callsIn_of_wp_marks Tryd.func6 rfl trivial ?_ rfl
  simp only [Tryd.ntmps6, List.size_toArray, List.length_cons, List.length_nil, Nat.reduceAdd, Nat.reduceSub, Array.replicate_succ, Array.replicate_zero, List.push_toArray, List.append_toArray, List.nil_append, List.cons_append]
  refine wpIn_wide.2 ?_
  obtain ⟨gn, hgn⟩ : ∃ g, w.heap.size = g := ⟨_, rfl⟩
  have HR := Lib.hid hr
  have HRL := Lib.hid hrl
  have HGG := Lib.hid hG
  clear hr hrl hG
  obtain ⟨W0, hW0⟩ : ∃ W, w.alloc (.cells #[.int .i64 n] 3) = W := ⟨_, rfl⟩
  have hB0 : Below w.heap.size w W0 := hW0 ▸ (Below.refl _ _).alloc (Nat.le_refl _) _
  have hN : Blk W0 gn 3 #[.int .i64 n] := by rw [← hW0, ← hgn]; exact Blk.new _ _ _
  go_wp2_with (fail)
  have HB0 := Lib.hid hB0
  have HN := Lib.hid hN
  clear hW0 hB0 hN
  refine (build_calls l A c W0 ((HR.out.below HB0.out).more HB0.out.size) (by omega)).mono ?_
  rintro e w1 ⟨p, s, rfl, hx, hb1, hf1⟩
  have HX := Lib.hid hx
  have HB1 := Lib.hid (HB0.out.trans (hb1.mono HB0.out.size))
  have HN1 := Lib.hid (HN.out.below hb1 HN.out.lt)
  have HF1 := Lib.hid hf1
  clear hx hb1 hf1
  go_wp2_with (fail)
  refine (build_calls l A c w1 ((HR.out.below HB1.out).more HB1.out.size) (by omega)).mono ?_
  rintro e w2 ⟨q, t, rfl, hy, hb2, hf2⟩
  have HX2 := Lib.hid (HX.out.below hb2)
  have HB2 := Lib.hid (HB1.out.trans (hb2.mono HB1.out.size))
  have HN2 := Lib.hid (HN1.out.below hb2 HN1.out.lt)
  have HY := Lib.hid hy
  have HF2 := Lib.hid hf2
  clear hy hb2 hf2
  go_wp2_with (fail)
  refine (build_calls l A c w2 ((HR.out.below HB2.out).more HB2.out.size) (by omega)).mono ?_
  rintro e w3 ⟨r, u, rfl, hz, hb3, hf3⟩
  have hT : Tri w.heap.size w3 gn n p q r s t u (laidL l l.length) (laidL l l.length) (laidL l l.length) := ⟨HN2.out.below hb3 HN2.out.lt, HX2.out.below hb3, HY.out.below hb3, hz,
    fun i h1 h2 => by have h3 := HX.out.of_lt h1; have h4 := HF2.out i h2; omega,
    fun i h1 h2 => by have h3 := HX2.out.of_lt h1; have h4 := hf3 i h2; omega,
    fun i h1 h2 => by have h3 := HY.out.of_lt h1; have h4 := hf3 i h2; omega,
    fun i hi => Nat.le_trans HB0.out.size (HF1.out i hi), fun i hi => Nat.le_trans HB1.out.size (HF2.out i hi), fun i hi => Nat.le_trans HB2.out.size (hf3 i hi)⟩
  have HB3 := Lib.hid (HB2.out.trans (hb3.mono HB2.out.size))
  have HT := Lib.hid hT
  clear hT
  have hLl := laidL_len l l.length
  obtain ⟨L, hL⟩ : ∃ L, laidL l l.length = L := ⟨_, rfl⟩
  rw [hL] at HT hLl
  have HU := Lib.hid (hL ▸ HX.out.up)
  clear hz hb3 hf3 HX HX2 HY HN HN1 HN2 HF1 HF2 HB0 HB1 HB2 hL
  go_wp2_with (fail)
  refine (works_calls w3 (HGG.out.below HB3.out)).mono ?_
  rintro e w4 ⟨rfl, hb4⟩
  have HT4 := Lib.hid (HT.out.below hb4)
  have HB4 := Lib.hid (HB3.out.trans (hb4.mono HB3.out.size))
  clear hb4 HT HB3
  have kn : w4.cell? ⟨gn, 0, none⟩ = some (.int .i64 n) := HT4.out.bn.cell 0
  go_wp2_with (fail)
  refine (len_calls w4 HT4.out.x).mono ?_
  rintro e w4' ⟨rfl, rfl⟩
  go_wp2_with (fail)
  refine (prune_calls n _ HT4.out.x).mono ?_
  rintro e w5 ⟨s5, rfl, hC5, hb5, hs5⟩
  have hp0 := prune_len L n
  have hp1 := prune_again HU.out n
  have hp2 : 0 ≤ pruneN L n := by rw [pruneN_eq]; omega
  have HT5 := Lib.hid (HT4.out.turnX hC5 hb5 hs5 HB4.out.size)
  have HB5 := Lib.hid (HB4.out.trans (hb5.to_below HT4.out.fx HB4.out.size))
  have HP := Lib.hid hp1
  obtain ⟨L1, hL1⟩ : ∃ L1, pruneL L n = L1 := ⟨_, rfl⟩
  have HL1 := Lib.hid hL1
  rw [hL1] at HT5 HP hp0
  obtain ⟨g, hg⟩ : ∃ g, pruneN L n = g := ⟨_, rfl⟩
  have HG2 := Lib.hid hg
  rw [hg] at hp0 hp2 ⊢
  have hp3 : (L.length : Int) - g = (L1.length : Int) := by omega
  have hl1 : L1.length ≤ 5864062014805 := by have := HT5.out.x.len; omega
  have kn5 : w5.cell? ⟨gn, 0, none⟩ = some (.int .i64 n) := HT5.out.bn.cell 0
  clear hC5 hb5 hs5 hp1 hL1 hg kn hp0
  go_wp2_with (fail)
  refine (len_calls w5 HT5.out.x).mono ?_
  rintro e w5' ⟨rfl, rfl⟩
  go_wp2_with (fail)
  refine (prune_calls n _ HT5.out.x).mono ?_
  rintro e w6 ⟨s6, rfl, hC6, hb6, hs6⟩
  rw [HP.out.2]
  rw [HP.out.1] at hC6
  have HT6 := Lib.hid (HT5.out.turnX hC6 hb6 hs6 HB5.out.size)
  have HB6 := Lib.hid (HB5.out.trans (hb6.to_below HT5.out.fx HB5.out.size))
  clear hC6 hb6 hs6 kn5 hp3
  go_wp2_with (fail)
  go_loopw [14] (fun i wr => ∃ k : Nat, k ≤ looks.length ∧ i = .int .i64 k ∧ Tri w.heap.size wr gn n p q r s6 t u L1 L L ∧ Below w.heap.size w wr) (fun i _ => looks.length - (intOf i).toNat)
  case atStart => exact ⟨0, Nat.zero_le _, rfl, HT6.out, HB6.out⟩
  case round =>
    clear HT6 HB6 HT5 HB5 HT4 HB4
    obtain ⟨k, hk, rfl, hT, hB⟩ := hrel
    have HT := Lib.hid hT
    have HB := Lib.hid hB
    by_cases hlt : k < looks.length
    · have hkl : (k : Int) < looks.length := by omega
      obtain ⟨ad, rfl, hadb, e0⟩ := ints_at (HRL.out.below hB) hlt
      generalize looks[k] = m at e0
      clear hT hB
      go_wp2_with (fail)
      refine (at_calls m wr HT.out.x).mono ?_
      rintro e v1 ⟨rfl, hb1⟩
      have e1 := cell_below hb1 e0
      have HB1 := Lib.hid hb1
      clear hb1
      go_wp2_with (fail)
      refine (at_calls m v1 (HT.out.y.below HB1.out)).mono ?_
      rintro e v2 ⟨rfl, hb2⟩
      have e2 := cell_below hb2 e1
      have HT2 := Lib.hid ((HT.out.below HB1.out).below hb2)
      have HB2 := Lib.hid ((HB.out.trans (HB1.out.mono HB.out.size)).trans (hb2.mono (Nat.le_trans HB.out.size HB1.out.size)))
      have kn2 : v2.cell? ⟨gn, 0, none⟩ = some (.int .i64 n) := HT2.out.bn.cell 0
      clear hb2 e0 e1
      by_cases hnm : n ≤ m
      · have h1 : atV L1 m = atV L m := by rw [← HL1.out]; exact prune_atV HU.out hnm
        have h2 : decide (0 < leN L1 m) = decide (0 < leN L m) := by rw [← HL1.out, decide_eq_decide]; exact prune_pos HU.out hnm
        rw [h1, h2]
        clear h1 h2
        obtain ⟨b, hb⟩ : ∃ b, decide (0 < leN L m) = b := ⟨_, rfl⟩
        rw [hb]
        clear hb
        obtain ⟨vv, hvv⟩ : ∃ b, atV L m = b := ⟨_, rfl⟩
        rw [hvv]
        clear hvv
        have hd1 : decide (n ≤ m) = true := by simpa using hnm
        cases b with
        | true =>
          go_wp2_with (fail)
          go_quiet (fail)
          go_wp2_with (fail)
          go_roundw
          case rel => exact ⟨k + 1, by omega, by go_num, HT2.out.below (below_drewN (Below.refl _ _) _), below_drewN HB2.out _⟩
          case measure => simp [intOf]; omega
        | false =>
          go_wp2_with (fail)
          go_quiet (fail)
          go_wp2_with (fail)
          go_roundw
          case rel => exact ⟨k + 1, by omega, by go_num, HT2.out.below (below_drewN (Below.refl _ _) _), below_drewN HB2.out _⟩
          case measure => simp [intOf]; omega
      · have h2 : decide (0 < leN L1 m) = true → decide (0 < leN L m) = true := by
          rw [← HL1.out]
          intro h
          simp at h ⊢
          exact prune_sub L n m h
        have hd1 : decide (n ≤ m) = false := by simp; omega
        obtain ⟨b, hb⟩ : ∃ b, decide (0 < leN L1 m) = b := ⟨_, rfl⟩
        rw [hb] at h2 ⊢
        clear hb
        obtain ⟨b2, hb2⟩ : ∃ b, decide (0 < leN L m) = b := ⟨_, rfl⟩
        rw [hb2] at h2 ⊢
        clear hb2
        cases b with
        | true =>
          obtain rfl : b2 = true := h2 rfl
          clear h2
          go_wp2_with (fail)
          go_quiet (fail)
          go_wp2_with (fail)
          go_roundw
          case rel => exact ⟨k + 1, by omega, by go_num, HT2.out.below (below_drewN (Below.refl _ _) _), below_drewN HB2.out _⟩
          case measure => simp [intOf]; omega
        | false =>
          clear h2
          go_wp2_with (fail)
          go_quiet (fail)
          go_wp2_with (fail)
          go_roundw
          case rel => exact ⟨k + 1, by omega, by go_num, HT2.out.below (below_drewN (Below.refl _ _) _), below_drewN HB2.out _⟩
          case measure => simp [intOf]; omega
    · obtain rfl : k = looks.length := by omega
      clear hT hB
      go_wp2_with (fail)
      refine (last_calls wr HT.out.x).mono ?_
      rintro e v1 ⟨rfl, hb1⟩
      have HB1 := Lib.hid hb1
      clear hb1
      go_wp2_with (fail)
      refine (last_calls v1 (HT.out.y.below HB1.out)).mono ?_
      rintro e v2 ⟨rfl, hb2⟩
      have HT2 := Lib.hid ((HT.out.below HB1.out).below hb2)
      have HB2 := Lib.hid ((HB.out.trans (HB1.out.mono HB.out.size)).trans (hb2.mono (Nat.le_trans HB.out.size HB1.out.size)))
      have h1 : lastV L = lastV L1 := by rw [← HL1.out]; exact (prune_lastV L n).symm
      have h2 : lastM L = lastM L1 := by rw [← HL1.out]; exact (prune_lastM L n).symm
      have h3 : decide (0 < L.length) = decide (0 < L1.length) := by
        rw [decide_eq_decide]
        have := prune_nil L n
        rw [HL1.out] at this
        omega
      rw [h1, h2, h3]
      clear hb2 h1 h2 h3
      go_upto_region 21 with fail
      go_cut [20, 21, 23, 24, 148] from 116 to 147 (fun _ _ _ _ b wd => b = .bool false ∧ ∃ s7, Tri w.heap.size wd gn n p q r s7 t u L1 L L ∧ Below w.heap.size w wd)
      case first =>
        by_cases h0 : L1.length = 0
        · have hd : decide (0 < L1.length) = false := by simp [h0]
          rw [hd]
          clear hd h0
          go_wp2
          go_meet
          case rel => exact ⟨rfl, s6, HT2.out, HB2.out⟩
        · have hd : decide (0 < L1.length) = true := by simp; omega
          have hm : lastM L1 = lastNo L1 := if_neg h0
          rw [hd, hm]
          clear hd h0 hm
          go_wp2_with (fail)
          refine (put_calls (lastNo L1) ⟨#[109, 111, 114, 101]⟩ v2 HT2.out.x (by have := HT2.out.y.len; have := HT2.out.x.len; have := pruneL_len L n; have h9 := HL1.out; rw [h9] at this; omega)).mono ?_
          rintro e v3 ⟨s7, rfl, hC7, hb7, hs7⟩
          rw [putE_last]
          rw [putL_last] at hC7
          have HT3 := Lib.hid (HT2.out.turnX hC7 hb7 hs7 HB2.out.size)
          have HB3 := Lib.hid (HB2.out.trans (hb7.to_below HT2.out.fx HB2.out.size))
          clear hC7 hb7 hs7
          go_wp2_with (fail)
          refine (plain_errV 1 1 v3 (by omega) (by omega) (HGG.out.below HB3.out)).mono ?_
          rintro e v4 ⟨rfl, hb4⟩
          have HT4 := Lib.hid (HT3.out.below hb4)
          have HB4 := Lib.hid (HB3.out.trans (hb4.mono HB3.out.size))
          clear hb4
          go_wp2
          go_meet
          case rel => exact ⟨rfl, s7, HT4.out, HB4.out⟩
      case rest =>
        obtain ⟨rfl, s7, hT, hB⟩ := hcut
        have HT7 := Lib.hid hT
        have HB7 := Lib.hid hB
        obtain ⟨gb, hgb⟩ : ∃ g, wc.heap.size = g := ⟨_, rfl⟩
        clear hT hB HT2 HB2 HT HB HB1
        go_wp2_with (fail)
        refine (all_calls p _).mono ?_
        rintro e w' ⟨rfl, rfl⟩
        obtain ⟨W8, hW8⟩ : ∃ W, (wc.alloc (.cells #[.int .i64 0] 3)).alloc (.cells #[.pointer (some ⟨p, 0, none⟩)] 23) = W := ⟨_, rfl⟩
        have s1 : ∀ (v : World) (o : Obj), (v.alloc o).heap.size = v.heap.size + 1 := fun v o => by simp
        have hb8 : Below wc.heap.size wc W8 := hW8 ▸ ((Below.refl _ _).alloc (Nat.le_refl _) _).alloc (by simp) _
        have bl : Blk W8 gb 3 #[.int .i64 0] := by rw [← hW8, ← hgb]; exact (Blk.new wc _ _).alloc _
        have bb : Blk W8 (gb + 1) 23 #[.pointer (some ⟨p, 0, none⟩)] := by
          rw [← hW8, ← hgb]; have h := Blk.new (wc.alloc (.cells #[.int .i64 0] 3)) 23 #[.pointer (some ⟨p, 0, none⟩)]; rw [s1] at h; exact h
        have hs8 : W8.heap.size = gb + 2 := by rw [← hW8]; simp [s1, hgb]
        have HT8 := Lib.hid (HT7.out.below hb8)
        have HB8 := Lib.hid (HB7.out.trans (hb8.mono HB7.out.size))
        have hgn2 : gn < gb := by have := HT7.out.bn.lt; omega
        have hold : ∀ i, OfC p s7 i → i < gb := fun i hi => hgb ▸ HT7.out.x.of_lt hi
        have hwb : w.heap.size ≤ gb := by have := HB7.out.size; omega
        rw [hW8, show (wc.alloc (.cells #[.int .i64 0] 3)).heap.size = gb + 1 by rw [s1, hgb]]
        have HBL := Lib.hid bl
        have HBB := Lib.hid bb
        have HOLD := Lib.hid hold
        clear hW8 s1 hb8 bl bb hgb hold HT7 HB7
        go_wp2_with (fail)
        have hKlt : ∀ i, WalkK (gb + 1) p s7 i → i < W8.heap.size := by
          rintro i (rfl | hi)
          · rw [hs8]; omega
          · have := HOLD.out i hi; omega
        refine (wpIn_wide (n := 3)).1 ?_
        refine wpIn_rangeFunc_ownG (F := Fence.wide) rfl (by omega) (gf := 34) (lb := #[.pointer (some ⟨gb + 1, 0, none⟩)]) rfl trivial (enters_of Tryd.func34 (by kernel_rfl) rfl)
          (all_stops 2 (by omega) (gb + 1) p s7 L1 W8 HBB.out HT8.out.x) KeepK.trans (KeepK.put hKlt) (Below.refl _ _) (fun _ => rfl)
          (fun pre W => (Blk W gb 3 #[.int .i64 (leN pre n)] ∧ Tri w.heap.size W gn n p q r s7 t u L1 L L) ∧ Below w.heap.size w W)
          (fun _ _ _ => False)
          (OwnFrom.and (Own.from (fun s A B row hs hg hr => ⟨blk_kept hs.1 hg hr, hs.2.kept hg hr⟩) _) (ownFrom_below (Nat.le_refl _) (by rw [hs8]; omega)))
          (fun _ _ _ _ _ hs _ _ => hs)
          ⟨⟨HBL.out, HT8.out⟩, HB8.out⟩
          ?a1 ?assign ?body ?done ?stop
        case assign =>
          intro l x W K hK
          gi_wp2
          exact hK
        case body =>
          rintro l2 pre x W ⟨⟨hbl, hT⟩, hB⟩ hpl
          have y0 : W.cell? ⟨gb, 0, none⟩ = some (.int .i64 (leN pre n)) := hbl.cell 0
          have z0 : W.frozen? ⟨gb, 0, none⟩ = false := hbl.frozen 0
          have y1 : W.cell? ⟨gn, 0, none⟩ = some (.int .i64 n) := hT.bn.cell 0
          have hsn := leN_snoc pre x n
          have hle := leN_le pre n
          obtain ⟨a, ha⟩ : ∃ a, leN pre n = a := ⟨_, rfl⟩
          rw [ha] at y0 hsn hle hbl
          have hle2 : a ≤ 5864062014805 := by omega
          have HBL2 := Lib.hid hbl
          have HT2 := Lib.hid hT
          have HB2 := Lib.hid hB
          have hnK : ¬ WalkK (gb + 1) p s7 gb := by
            rintro (h3 | h3)
            · omega
            · have := HOLD.out _ h3; omega
          have HNK := Lib.hid hnK
          by_cases hxn : x.n ≤ n
          · rw [if_pos hxn] at hsn
            have HSN := Lib.hid hsn
            clear hbl hT hB hnK hsn ha hle
            gi_wp2
            refine ⟨(KeepsOthers.setCell _ _ _).from _, (KeepK.refl _ W).setCell HNK.out _, ⟨?_, HT2.out.far HBL2.out (by omega) _⟩, HB2.out.setCell (p := ⟨gb, 0, none⟩) hwb _⟩
            rw [HSN.out]
            exact HBL2.out.set_ 0 _
          · rw [if_neg hxn] at hsn
            have HSN := Lib.hid hsn
            have hxn2 : n < x.n := by omega
            clear hbl hT hB hnK hsn ha hle hxn
            gi_wp2
            refine ⟨KeepsFrom.refl _ _, KeepK.refl _ _, ⟨?_, HT2.out⟩, HB2.out⟩
            rw [HSN.out]
            exact HBL2.out
        case done =>
          rintro D ys W hD rfl ⟨⟨hbl, hT⟩, hB⟩ hK
          have hlow := prune_low HU.out n
          rw [HL1.out] at hlow
          have y0 : W.cell? ⟨gb, 0, none⟩ = some (.int .i64 (leN ys n)) := hbl.cell 0
          have y1 : W.cell? ⟨gn, 0, none⟩ = some (.int .i64 n) := hT.bn.cell 0
          have hlow2 : ((leN ys n : Nat) : Int) ≤ 1 := by omega
          have HT2 := Lib.hid hT
          have HB2 := Lib.hid hB
          have HK := Lib.hid hK
          clear hbl hT hB hK hlow
          by_cases hmn : more < n
          · go_wp2_with (fail)
            refine ⟨by simp, .inl ⟨_, _, rfl, run_takeDeferred HK.out, ?_⟩⟩
            exact ⟨_, results_tmp rfl _ _ _, rfl, HB2.out.trans (belowK_b (w := w) (Nat.le_refl _) W D _ _ (by rw [hs8] at hD; omega) HK.out rfl rfl)⟩
          · have hmn2 : n ≤ more := by omega
            have hpp := prune_prune HU.out hmn2
            rw [HL1.out, HG2.out] at hpp
            obtain ⟨h8, h5⟩ := hpp
            have h6 : 0 ≤ pruneN ys more := by rw [pruneN_eq]; omega
            have h7 := prune_len L more
            have h9 := pruneL_len ys more
            have h10 := HT2.out.y.len
            obtain ⟨g2, hg2⟩ : ∃ g2, pruneN ys more = g2 := ⟨_, rfl⟩
            rw [hg2] at h5 h6
            have h11 : g + g2 ≤ 5864062014805 := by omega
            have HG3 := Lib.hid hg2
            have H5 := Lib.hid h5
            have H8 := Lib.hid h8
            have h12 : (pruneL L more).length ≤ l.length := by have := pruneL_len L more; omega
            have H12 := Lib.hid h12
            have hDlt : D < W.heap.size := (Array.getElem?_eq_some_iff.1 HK.out).1
            clear hmn hg2 h5 h8 h7 h9 h10 h12
            go_wp2_with (fail)
            refine (prune_calls more W HT2.out.x).mono ?_
            rintro e v3 ⟨s8, rfl, hC, hb, hs⟩
            rw [HG3.out]
            have HK3 := Lib.hid ((hb.block D hDlt (not_of HT2.out.x HK.out rfl)).trans HK.out)
            have HT3 := Lib.hid (HT2.out.turnX hC hb hs HB2.out.size)
            have HB3 := Lib.hid (HB2.out.trans (hb.to_below HT2.out.fx HB2.out.size))
            have hD3 : D < v3.heap.size := (Array.getElem?_eq_some_iff.1 HK3.out).1
            clear hC hb hs
            go_wp2_with (fail)
            refine (prune_calls more v3 HT3.out.z).mono ?_
            rintro e v4 ⟨s9, rfl, hC, hb, hs⟩
            rw [H5.out]
            have HK4 := Lib.hid ((hb.block D hD3 (not_of HT3.out.z HK3.out rfl)).trans HK3.out)
            have HT4 := Lib.hid (HT3.out.turnZ hC hb hs HB3.out.size)
            have HB4 := Lib.hid (HB3.out.trans (hb.to_below HT3.out.fz HB3.out.size))
            have hD4 : D < v4.heap.size := (Array.getElem?_eq_some_iff.1 HK4.out).1
            clear hC hb hs
            go_wp2_with (fail)
            refine (allV_calls (l.length : Int) v4 HT4.out.x (by have := H12.out; rw [H8.out]; omega)).mono ?_
            rintro e v5 ⟨av, rfl, hr5, hb5⟩
            obtain ⟨VA, vc, rfl⟩ := own_slice hr5
            have HR5 := Lib.hid hr5
            have HT5 := Lib.hid (HT4.out.below hb5)
            have HB5 := Lib.hid (HB4.out.trans (hb5.mono HB4.out.size))
            have HK5 := Lib.hid ((hb5.block D hD4).trans HK4.out)
            have hD5 : D < v5.heap.size := (Array.getElem?_eq_some_iff.1 HK5.out).1
            clear hr5 hb5
            go_wp2_with (fail)
            refine (allV_calls (l.length : Int) v5 HT5.out.z (by have := H12.out; omega)).mono ?_
            rintro e v6 ⟨bv, rfl, hr6, hb6⟩
            obtain ⟨VB, vd, rfl⟩ := own_slice hr6
            have HR6 := Lib.hid hr6
            have HR56 := Lib.hid (rowR_below HR5.out hb6)
            have HB6 := Lib.hid (HB5.out.trans (hb6.mono HB5.out.size))
            have HK6 := Lib.hid ((hb6.block D hD5).trans HK5.out)
            have hD6 : D < v6.heap.size := (Array.getElem?_eq_some_iff.1 HK6.out).1
            clear hr6 hb6
            go_wp2_with (fail)
            refine (sameV_calls (pruneL ys more) (pruneL L more) VA VB vc vd v6 (Reads.of_own HR56.out) (Reads.of_own HR6.out) HT5.out.x.len).mono ?_
            rintro e v7 ⟨rfl, hb7⟩
            rw [decide_eq_true H8.out]
            have HB7' := Lib.hid (HB6.out.trans (hb7.mono HB6.out.size))
            have HK7 := Lib.hid ((hb7.block D hD6).trans HK6.out)
            clear hb7
            go_wp2
            refine ⟨by simp, .inl ⟨_, _, rfl, run_takeDeferred HK7.out, ?_⟩⟩
            exact ⟨_, results_tmp rfl _ _ _, rfl, HB7'.out.trans (belowK_b (w := w) (Nat.le_refl _) v7 D _ _ (by rw [hs8] at hD; omega) HK7.out rfl rfl)⟩
        case stop =>
          rintro D c pre W _ _ h _
          exact h.elim
end Go.Proofs.YtmljiegeingpeaaDoor
