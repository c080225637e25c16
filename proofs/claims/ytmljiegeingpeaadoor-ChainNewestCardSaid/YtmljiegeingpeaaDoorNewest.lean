/- custodylaw10.ChainNewest by a contract. -/
import Derived.Test.YtmljiegeingpeaaDoorKeeps
namespace Go.Proofs.YtmljiegeingpeaaDoor
set_option linter.unusedSimpArgs false
set_option linter.unusedVariables false
open Go.RowKit Go.Shelf
attribute [local go_sem] Oper.semAt_some

/-- What puts leave of no versions. -/
def putsL (l : List ActS) (k : Nat) : List VerS := (l.take k).foldl (fun L a => putL L ⟨a.n, a.v⟩) []
theorem putsL_succ {l : List ActS} {k : Nat} (hk : k < l.length) : putsL l (k + 1) = putL (putsL l k) ⟨l[k].n, l[k].v⟩ := by
  unfold putsL
  rw [List.take_succ_eq_append_getElem hk, List.foldl_append]
  rfl
theorem leN_all {L : List VerS} {n : Int} (h : ∀ x ∈ L, x.n ≤ n) : leN L n = L.length := by
  unfold leN
  rw [List.filter_eq_self.2 (fun x hx => by simpa using h x hx)]
theorem at_snoc_le {L : List VerS} (h : UpV L) {x : VerS} (hx : lastNo L < x.n) {n : Int} (hn : x.n ≤ n) : leN (L ++ [x]) n = L.length + 1 ∧ atV (L ++ [x]) n = x.v := by
  have h1 : leN (L ++ [x]) n = L.length + 1 := by
    rw [leN_snoc, if_pos hn, leN_all fun y hy => by have := h.le_last hy; omega]
  refine ⟨h1, ?_⟩
  unfold atV
  rw [h1, if_neg (by omega)]
  simp
theorem at_snoc_gt {L : List VerS} {x : VerS} {n : Int} (hn : ¬ x.n ≤ n) : leN (L ++ [x]) n = leN L n ∧ atV (L ++ [x]) n = atV L n := by
  have h1 : leN (L ++ [x]) n = leN L n := by rw [leN_snoc, if_neg hn]; rfl
  refine ⟨h1, ?_⟩
  unfold atV
  rw [h1]
  by_cases h0 : leN L n = 0
  · rw [if_pos h0, if_pos h0]
  · have := leN_le L n
    rw [if_neg h0, if_neg h0, List.getElem?_append_left (by omega)]
theorem at_next {L : List VerS} (h : UpV L) {pre : List VerS} {x : VerS} (hp : (pre ++ [x]) <+: L) : lastNo pre < x.n ∧ 0 < leN L x.n ∧ atV L x.n = x.v := by
  obtain ⟨t, ht⟩ := hp
  have hlen : pre.length < L.length := by rw [← ht]; simp
  have hx : L[pre.length] = x := by simp [← ht]
  have hpre : pre = L.take pre.length := by simp [← ht]
  have h1 : leN L x.n = pre.length + 1 := by
    refine le_split (by omega) (fun k hk hkm => ?_) (fun k hk hkm => ?_)
    · rw [← hx]; exact h.le (by omega) hlen
    · rw [← hx]; exact h.lt (by omega) hk
  refine ⟨?_, by omega, ?_⟩
  · by_cases h0 : 0 < pre.length
    · rw [lastNo_pos h0, ← hx]
      have : pre[pre.length - 1] = L[pre.length - 1] := by simp [← ht, List.getElem_append_left (show pre.length - 1 < pre.length by omega)]
      rw [this]
      exact h.lt (by omega) hlen
    · have : pre = [] := List.eq_nil_of_length_eq_zero (by omega)
      have h3 := h.2 x (by rw [← hx]; simp)
      rw [this]; simp [lastNo]; omega
  · unfold atV
    rw [h1, if_neg (by omega), Nat.add_sub_cancel, List.getElem?_eq_getElem hlen, hx]
    rfl

/-- What ChainNewest holds throughout. -/
structure Nw (B : Nat) (W : World) (g0 gx gc p : Nat) (sv : Value) (L : List VerS) (cnt : Nat) : Prop where
  b0 : Blk W g0 4 #[.bool false]
  bx : Blk W gx 23 #[.pointer (some ⟨p, 0, none⟩)]
  bc : Blk W gc 3 #[.int .i64 cnt]
  c : Chn W p sv L
  f : ∀ i, OfC p sv i → B ≤ i
section
variable {B : Nat} {W W' : World} {g0 gx gc p : Nat} {sv : Value} {L : List VerS} {cnt : Nat}
theorem Nw.below (h : Nw B W g0 gx gc p sv L cnt) (hb : Below W.heap.size W W') : Nw B W' g0 gx gc p sv L cnt :=
  ⟨h.b0.below hb h.b0.lt, h.bx.below hb h.bx.lt, h.bc.below hb h.bc.lt, h.c.below hb, h.f⟩
theorem Nw.kept {row : Option Nat} (h : Nw B W g0 gx gc p sv L cnt) (hg : W.grownBy W' row) (hr : ∀ r, row = some r → ∃ o : Obj, W.heap[r]? = some o ∧ o.isCells = false) : Nw B W' g0 gx gc p sv L cnt :=
  ⟨blk_kept h.b0 hg hr, blk_kept h.bx hg hr, blk_kept h.bc hg hr, chn_kept h.c hg hr, h.f⟩
theorem Nw.far {g : Nat} {cs : Array Value} (h : Nw B W g0 gx gc p sv L cnt) (hb : Blk W g 3 cs) (hne : gc ≠ g) (v : Value) : Nw B (W.setCell ⟨g, 0, none⟩ v) g0 gx gc p sv L cnt :=
  ⟨h.b0.far (h.b0.ne_ hb (by decide)) v, h.bx.far (h.bx.ne_ hb (by decide)) v, h.bc.far hne v, chn_far hb h.c (by decide) (by decide), h.f⟩
theorem Nw.turn (h : Nw B W g0 gx gc p sv L cnt) {s' : Value} {L' : List VerS} (hC : Chn W' p s' L') (hb : But W W' (OfC p sv)) (hs : ∀ b, s'.ownBlock = some b → sv.ownBlock = some b ∨ W.heap.size ≤ b) (hB : B ≤ W.heap.size) : Nw B W' g0 gx gc p s' L' cnt :=
  ⟨h.b0.but hb (of_blk_ne h.b0 h.c (by decide) (by decide)), h.bx.but hb (of_blk_ne h.bx h.c (by decide) (by decide)), h.bc.but hb (of_blk_ne h.bc h.c (by decide) (by decide)), hC,
    fun i hi => (of_new hs hi).elim (fun h2 => h.f i h2) (fun h2 => by omega)⟩
theorem Nw.count (h : Nw B W g0 gx gc p sv L cnt) (c2 : Nat) : Nw B (W.setCell ⟨gc, 0, none⟩ (.int .i64 c2)) g0 gx gc p sv L c2 :=
  ⟨h.b0.far (h.b0.ne_ h.bc (by decide)) _, h.bx.far (h.bx.ne_ h.bc (by decide)) _, h.bc.set_ 0 _, chn_far h.bc h.c (by decide) (by decide), h.f⟩
end
/-- The best put so far. -/
def BestOK (l : List ActS) (L : List VerS) (n : Int) (k : Nat) (b : Int) : Prop := (b = -1 ∧ leN L n = 0) ∨ ∃ (j : Nat) (hj : j < l.length), b = j ∧ j < k ∧ 0 < leN L n ∧ atV L n = l[j].v
theorem BestOK.up {l : List ActS} {L : List VerS} {n b : Int} {k : Nat} (h : BestOK l L n k b) : BestOK l L n (k + 1) b :=
  h.imp id fun ⟨j, hj, h1, h2, h3⟩ => ⟨j, hj, h1, by omega, h3⟩

/-- What the walk of ChainNewest holds behind so many rounds. -/
structure NwI (B : Nat) (W : World) (g0 gx gc p ga : Nat) (sv : Value) (L pre : List VerS) : Prop where
  a : Blk W ga 3 #[.int .i64 (lastNo pre)]
  s : Blk W (ga + 1) 3 #[.int .i64 pre.length]
  x : Blk W (ga + 1 + 1) 23 #[.pointer (some ⟨p, 0, none⟩)]
  n : Nw B W g0 gx gc p sv L L.length
section
variable {B : Nat} {W W' : World} {g0 gx gc p ga : Nat} {sv : Value} {L pre : List VerS}
theorem NwI.below (h : NwI B W g0 gx gc p ga sv L pre) (hb : Below W.heap.size W W') : NwI B W' g0 gx gc p ga sv L pre :=
  ⟨h.a.below hb h.a.lt, h.s.below hb h.s.lt, h.x.below hb h.x.lt, h.n.below hb⟩
theorem NwI.kept {row : Option Nat} (h : NwI B W g0 gx gc p ga sv L pre) (hg : W.grownBy W' row) (hr : ∀ r, row = some r → ∃ o : Obj, W.heap[r]? = some o ∧ o.isCells = false) : NwI B W' g0 gx gc p ga sv L pre :=
  ⟨blk_kept h.a hg hr, blk_kept h.s hg hr, blk_kept h.x hg hr, h.n.kept hg hr⟩
theorem NwI.turn (h : NwI B W g0 gx gc p ga sv L pre) (hgc : gc < ga) (x : VerS) : NwI B ((W.setCell ⟨ga, 0, none⟩ (.int .i64 x.n)).setCell ⟨ga + 1, 0, none⟩ (.int .i64 ((pre.length : Int) + 1))) g0 gx gc p ga sv L (pre ++ [x]) := by
  have e1 : lastNo (pre ++ [x]) = x.n := lastNo_snoc _ _
  have e2 : ((pre ++ [x]).length : Int) = (pre.length : Int) + 1 := by simp
  refine ⟨?_, ?_, ?_, ?_⟩
  · rw [e1]; exact (h.a.set_ 0 (.int .i64 x.n)).far (p := ⟨ga + 1, 0, none⟩) (by show ga ≠ ga + 1; omega) _
  · rw [e2]; exact (h.s.far (p := ⟨ga, 0, none⟩) (by show ga + 1 ≠ ga; omega) _).set_ 0 (.int .i64 ((pre.length : Int) + 1))
  · exact (h.x.far (p := ⟨ga, 0, none⟩) (by show ga + 1 + 1 ≠ ga; omega) _).far (p := ⟨ga + 1, 0, none⟩) (by show ga + 1 + 1 ≠ ga + 1; omega) _
  · exact (h.n.far h.a (by omega) _).far (h.s.far (p := ⟨ga, 0, none⟩) (by show ga + 1 ≠ ga; omega) _) (by omega) _
end
theorem keeps_below {W W' : World} (h : Below W.heap.size W W') : KeepsOthers W W' :=
  ⟨h.size, fun k o hk _ => (h.block k (Array.getElem?_eq_some_iff.1 hk).1).trans hk⟩

set_option maxRecDepth 100000 in
set_option maxHeartbeats 8000000 in
theorem lawNewest_calls (l : List ActS) (n : Int) (A : Option Addr) (c : Nat) (w : World) (hr : Reads w w.heap.size 3 A l.length (actsC l)) (hlen : l.length < 5864062014805) (hG : HG w) :
    Calls Tryd.prog 3 #[.slice A l.length c, .int .i64 n] w fun e w' => e = .returned (.bool true) ∧ Below w.heap.size w w' := by
  refine (callsIn_wide (n := 3)).1 ?_
  refine callsIn_of_wp_marks Tryd.func3 rfl trivial ?_ rfl
  simp only [Tryd.ntmps3, List.size_toArray, List.length_cons, List.length_nil, Nat.reduceAdd, Nat.reduceSub, Array.replicate_succ, Array.replicate_zero, List.push_toArray, List.append_toArray, List.nil_append, List.cons_append]
  refine wpIn_wide.2 ?_
  obtain ⟨g0, hg0⟩ : ∃ g, w.heap.size = g := ⟨_, rfl⟩
  have HR := Lib.hid hr
  have HGG := Lib.hid hG
  clear hr hG
  obtain ⟨W0, hW0⟩ : ∃ W, w.alloc (.cells #[.bool false] 4) = W := ⟨_, rfl⟩
  have hB0 : Below w.heap.size w W0 := hW0 ▸ (Below.refl _ _).alloc (Nat.le_refl _) _
  have h0 : Blk W0 g0 4 #[.bool false] := by rw [← hW0, ← hg0]; exact Blk.new _ _ _
  go_wp2_with (fail)
  have HB0 := Lib.hid hB0
  have H0 := Lib.hid h0
  clear hW0 hB0 h0
  refine (newChain_calls W0).mono ?_
  rintro e w1 ⟨rfl, hC1, hb1⟩
  obtain ⟨p, hp⟩ : ∃ p, W0.heap.size = p := ⟨_, rfl⟩
  obtain ⟨gx, hgx⟩ : ∃ p, w1.heap.size = p := ⟨_, rfl⟩
  rw [hp] at hC1 ⊢
  have hC2 := hC1.alloc (.cells #[.pointer (some ⟨p, 0, none⟩)] 23)
  have h02 := (H0.out.below hb1 H0.out.lt).alloc (.cells #[.pointer (some ⟨p, 0, none⟩)] 23)
  have hb2 : Below w.heap.size w (w1.alloc (.cells #[.pointer (some ⟨p, 0, none⟩)] 23)) := (HB0.out.trans (hb1.mono HB0.out.size)).alloc (Nat.le_trans HB0.out.size hb1.size) _
  have hx2 := Blk.new w1 23 #[.pointer (some ⟨p, 0, none⟩)]
  have HP := Lib.hid hp
  have HGX := Lib.hid hgx
  obtain ⟨W2, hW2⟩ : ∃ W, w1.alloc (.cells #[.pointer (some ⟨p, 0, none⟩)] 23) = W := ⟨_, rfl⟩
  rw [hW2] at hC2 h02 hb2 hx2
  have HC2 := Lib.hid hC2
  have H02 := Lib.hid h02
  have HB2 := Lib.hid hb2
  have HX2 := Lib.hid hx2
  have hxc : W2.cell? ⟨gx, 0, none⟩ = some (.pointer (some ⟨p, 0, none⟩)) := by rw [← hgx]; exact hx2.cell 0
  clear hC1 hb1 hC2 h02 hb2 hx2 hp
  go_wp2_with (fail)
  refine (works_calls W2 (HGG.out.below HB2.out)).mono ?_
  rintro e w3 ⟨rfl, hb3⟩
  obtain ⟨gc, hgc⟩ : ∃ p, w3.heap.size = p := ⟨_, rfl⟩
  have HGC := Lib.hid (show w.heap.size ≤ gc by have := HB2.out.size; have := hb3.size; omega)
  have hN : Nw w.heap.size (w3.alloc (.cells #[.int .i64 0] 3)) g0 gx gc p (.slice none 0 0) [] 0 :=
    ⟨(H02.out.below hb3 H02.out.lt).alloc _, ((HGX.out ▸ HX2.out).below hb3 (HGX.out ▸ HX2.out).lt).alloc _, by rw [← hgc]; exact Blk.new _ _ _, (HC2.out.below hb3).alloc _, fun i hi => by
      rcases hi with rfl | hi
      · have := HB0.out.size; have := HP.out; omega
      · cases hi⟩
  have HN := Lib.hid hN
  have HB3 := Lib.hid ((HB2.out.trans (hb3.mono HB2.out.size)).alloc (Nat.le_trans HB2.out.size hb3.size) (.cells #[.int .i64 0] 3))
  clear hN hb3 hW2 hxc
  go_wp2_with (fail)
  go_loopw [6, 7, 9] (fun la be i wr => ∃ (k : Nat) (sv : Value) (b : Int), k ≤ l.length ∧ i = .int .i64 k ∧ la = .int .i64 (lastNo (putsL l k)) ∧ be = .int .i64 b ∧ BestOK l (putsL l k) n k b ∧ (putsL l k).length ≤ k ∧ Nw w.heap.size wr g0 gx gc p sv (putsL l k) (putsL l k).length ∧ Below w.heap.size w wr) (fun _ _ i _ => l.length - (intOf i).toNat)
  case atStart => exact ⟨0, _, -1, Nat.zero_le _, rfl, rfl, rfl, .inl ⟨rfl, rfl⟩, Nat.le_refl _, HN.out, HB3.out⟩
  case round =>
    obtain ⟨k, sv, b, hk, rfl, rfl, rfl, hbest, hpl, hN, hB⟩ := hrel
    clear HN HB3
    by_cases hlt : k < l.length
    · have hkl : (k : Int) < l.length := by omega
      obtain ⟨ad, rfl, hadb, e0, e1, e2⟩ := acts_at (HR.out.below hB) hlt
      have hadb2 : (ad.add (k * 3)).block < w.heap.size := by unfold Addr.add; split <;> exact hadb
      have HLS := Lib.hid (putsL_succ hlt)
      obtain ⟨a, ha⟩ : ∃ a, l[k] = a := ⟨_, rfl⟩
      rw [ha] at e0 e1 e2 HLS
      have HA := Lib.hid ha
      obtain ⟨L, hL⟩ : ∃ L, putsL l k = L := ⟨_, rfl⟩
      rw [hL] at HLS hbest hpl hN ⊢
      have y0 : wr.cell? ⟨gx, 0, none⟩ = some (.pointer (some ⟨p, 0, none⟩)) := hN.bx.cell 0
      obtain ⟨WD, hWD⟩ : ∃ W, wr.drew = W := ⟨_, rfl⟩
      have HND := Lib.hid (hWD ▸ hN.below (Below.refl wr.heap.size wr).drew)
      have HBD := Lib.hid (hWD ▸ hB.drew)
      have HWD := Lib.hid hWD
      have HBE := Lib.hid hbest
      have HF : ∀ i, OfC p sv i → w.heap.size ≤ i := hN.f
      have HF := Lib.hid HF
      have hU := hN.c.up
      have hge := lastNo_ge hU
      have HU := Lib.hid hU
      have q1 : WD.cell? ⟨(ad.add (k * 3)).block, (ad.add (k * 3)).off + 1, none⟩ = some (.int .i64 a.n) := by rw [← hWD]; exact e1
      have q2 : WD.cell? ⟨(ad.add (k * 3)).block, (ad.add (k * 3)).off + 2, none⟩ = some (.string a.v) := by rw [← hWD]; exact e2
      have Q1 := Lib.hid q1
      have Q2 := Lib.hid q2
      have hLl : L.length < 5864062014805 := by omega
      have HLL := Lib.hid hLl
      clear hWD hbest hN hB ha hL hU e0 q1 q2
      by_cases hm : lastNo L < a.n
      · have hm0 : mayPut L a.n = true := by simp only [mayPut, decide_eq_true_eq]; omega
        have he : putE L a.n = 0 := by simp [putE, hm0]
        have hl : putL L ⟨a.n, a.v⟩ = L ++ [⟨a.n, a.v⟩] := by simp [putL, hm0]
        have HE := Lib.hid he
        have HL := Lib.hid hl
        clear hm0 he hl hge
        go_upto_region 10 with fail
        go_region_held3 (fun w' => w'.cell? ⟨gx, 0, none⟩ = some (.pointer (some ⟨p, 0, none⟩)) ∧ w'.cell? ⟨(ad.add (k * 3)).block, (ad.add (k * 3)).off + 1, none⟩ = some (.int .i64 a.n) ∧ w'.cell? ⟨(ad.add (k * 3)).block, (ad.add (k * 3)).off + 2, none⟩ = some (.string a.v)) (first | go_keep | fail)
          (first | (go_at_call 10; rw [HWD.out]; refine (put_calls a.n a.v WD HND.out.c HLL.out).mono ?_; rintro e w3 ⟨sv', rfl, hC', hb', hs'⟩; rw [HE.out, errV_zero]; rw [HL.out] at hC'; have hbb := hb'.to_below HF.out HBD.out.size; have HN3 := Lib.hid (HND.out.turn hC' hb' hs' HBD.out.size); have HB3 := Lib.hid (HBD.out.trans hbb); have t0 : w3.cell? ⟨gx, 0, none⟩ = some (.pointer (some ⟨p, 0, none⟩)) := HN3.out.bx.cell 0; have t1 : w3.cell? ⟨(ad.add (k * 3)).block, (ad.add (k * 3)).off + 1, none⟩ = some (.int .i64 a.n) := (hbb.cell (show (⟨(ad.add (k * 3)).block, (ad.add (k * 3)).off + 1, none⟩ : Addr).block < w.heap.size from hadb2)).trans Q1.out; have t2 : w3.cell? ⟨(ad.add (k * 3)).block, (ad.add (k * 3)).off + 2, none⟩ = some (.string a.v) := (hbb.cell (show (⟨(ad.add (k * 3)).block, (ad.add (k * 3)).off + 2, none⟩ : Addr).block < w.heap.size from hadb2)).trans Q2.out; clear hC' hb' hs' hbb))
        have y3 : w3.cell? ⟨gc, 0, none⟩ = some (.int .i64 L.length) := HN3.out.bc.cell 0
        have y4 : w3.frozen? ⟨gc, 0, none⟩ = false := HN3.out.bc.frozen 0
        have HN4 : Nw w.heap.size (w3.setCell ⟨gc, 0, none⟩ (.int .i64 ((L.length : Int) + 1))) g0 gx gc p sv' (L ++ [⟨a.n, a.v⟩]) (L ++ [(⟨a.n, a.v⟩ : VerS)]).length := by
          have h := HN3.out.count (L.length + 1)
          rw [List.length_append]
          exact h
        have HN4 := Lib.hid HN4
        have HB4 := Lib.hid ((HB3.out.setCell (p := ⟨gc, 0, none⟩) HGC.out (.int .i64 ((L.length : Int) + 1))))
        have h5 : putsL l (k + 1) = L ++ [⟨a.n, a.v⟩] := HLS.out.trans HL.out
        have H5 := Lib.hid h5
        clear h5
        by_cases hn : a.n ≤ n
        · go_wp2_with (fail)
          go_roundw
          case rel =>
            obtain ⟨f1, f2⟩ := at_snoc_le HU.out (x := ⟨a.n, a.v⟩) hm hn
            refine ⟨k + 1, sv', k, by omega, by go_num, ?_, rfl, ?_, ?_, ?_, HB4.out⟩
            · rw [H5.out, lastNo_snoc]
            · refine .inr ⟨k, hlt, rfl, by omega, by rw [H5.out, f1]; omega, ?_⟩
              rw [H5.out, f2, HA.out]
            · rw [H5.out]; simp; omega
            · rw [H5.out]; exact HN4.out
          case measure => simp [intOf]; omega
        · go_wp2_with (fail)
          go_roundw
          case rel =>
            obtain ⟨f1, f2⟩ := at_snoc_gt (L := L) (x := ⟨a.n, a.v⟩) hn
            refine ⟨k + 1, sv', b, by omega, by go_num, ?_, rfl, ?_, ?_, ?_, HB4.out⟩
            · rw [H5.out, lastNo_snoc]
            · have h := HBE.out.up
              unfold BestOK at h ⊢
              rw [H5.out, f1, f2]
              exact h
            · rw [H5.out]; simp; omega
            · rw [H5.out]; exact HN4.out
          case measure => simp [intOf]; omega
      · have hm0 : mayPut L a.n = false := by simp only [mayPut, decide_eq_false_iff_not]; omega
        have he : putE L a.n = 1 := by simp [putE, hm0]
        have hl : putL L ⟨a.n, a.v⟩ = L := by simp [putL, hm0]
        have HE := Lib.hid he
        have HL := Lib.hid hl
        clear hm0 he hl hge
        go_upto_region 10 with fail
        go_region_held3 (fun w' => w'.cell? ⟨gx, 0, none⟩ = some (.pointer (some ⟨p, 0, none⟩)) ∧ w'.cell? ⟨(ad.add (k * 3)).block, (ad.add (k * 3)).off + 1, none⟩ = some (.int .i64 a.n) ∧ w'.cell? ⟨(ad.add (k * 3)).block, (ad.add (k * 3)).off + 2, none⟩ = some (.string a.v)) (first | go_keep | fail)
          (first | (go_at_call 10; rw [HWD.out]; refine (put_calls a.n a.v WD HND.out.c HLL.out).mono ?_; rintro e w3 ⟨sv', rfl, hC', hb', hs'⟩; rw [HE.out, errV_pos (Int.le_refl 1)]; rw [HL.out] at hC'; have hbb := hb'.to_below HF.out HBD.out.size; have HN3 := Lib.hid (HND.out.turn hC' hb' hs' HBD.out.size); have HB3 := Lib.hid (HBD.out.trans hbb); have t0 : w3.cell? ⟨gx, 0, none⟩ = some (.pointer (some ⟨p, 0, none⟩)) := HN3.out.bx.cell 0; have t1 : w3.cell? ⟨(ad.add (k * 3)).block, (ad.add (k * 3)).off + 1, none⟩ = some (.int .i64 a.n) := (hbb.cell (show (⟨(ad.add (k * 3)).block, (ad.add (k * 3)).off + 1, none⟩ : Addr).block < w.heap.size from hadb2)).trans Q1.out; have t2 : w3.cell? ⟨(ad.add (k * 3)).block, (ad.add (k * 3)).off + 2, none⟩ = some (.string a.v) := (hbb.cell (show (⟨(ad.add (k * 3)).block, (ad.add (k * 3)).off + 2, none⟩ : Addr).block < w.heap.size from hadb2)).trans Q2.out; clear hC' hb' hs' hbb))
        have h5 : putsL l (k + 1) = L := HLS.out.trans HL.out
        have H5 := Lib.hid h5
        clear h5
        go_wp2_with (fail)
        go_roundw
        case rel =>
          refine ⟨k + 1, sv', b, by omega, by go_num, by rw [H5.out], rfl, ?_, ?_, ?_, HB3.out⟩
          · rw [H5.out]; exact HBE.out.up
          · rw [H5.out]; omega
          · rw [H5.out]; exact HN3.out
        case measure => simp [intOf]; omega
    · obtain rfl : k = l.length := by omega
      obtain ⟨L, hL⟩ : ∃ L, putsL l l.length = L := ⟨_, rfl⟩
      rw [hL] at hbest hpl hN ⊢
      have y0 : wr.cell? ⟨gx, 0, none⟩ = some (.pointer (some ⟨p, 0, none⟩)) := hN.bx.cell 0
      have HN := Lib.hid hN
      have HB := Lib.hid hB
      have HBE := Lib.hid hbest
      clear hN hB hbest hL
      go_wp2_with (fail)
      refine (at_calls n wr HN.out.c).mono ?_
      rintro e w4 ⟨rfl, hb4⟩
      have HN4 := Lib.hid (HN.out.below hb4)
      have HB4 := Lib.hid (HB.out.trans (hb4.mono HB.out.size))
      clear hb4
      go_upto_region 20 with fail
      go_cut [12, 13, 103] from 68 to 102 (fun _ _ b wd => b = .bool false ∧ Below w4.heap.size w4 wd)
      case first =>
        have y0 : w4.cell? ⟨gx, 0, none⟩ = some (.pointer (some ⟨p, 0, none⟩)) := HN4.out.bx.cell 0
        have y1 : w4.cell? ⟨gc, 0, none⟩ = some (.int .i64 L.length) := HN4.out.bc.cell 0
        rcases HBE.out with ⟨rfl, h0⟩ | ⟨j, hj, rfl, hjk, h0, h1⟩
        · have hd : decide (0 < leN L n) = false := by simp [h0]
          have ha : atV L n = ⟨#[]⟩ := by unfold atV; rw [if_pos h0]; rfl
          rw [hd, ha]
          clear hd ha h0
          go_quiet ((go_at_call 12; exact Calls.quiet_of_same (len_calls _ (HN4.out.c.below (below_drewN (Below.refl _ _) _)))))
          go_wp2
          go_meet
          case rel => exact ⟨rfl, below_drewN (Below.refl _ _) _⟩
        · have hd : decide (0 < leN L n) = true := by simp [h0]
          obtain ⟨ad, rfl, hadb, e0, e1, e2⟩ := acts_at (HR.out.below HB4.out) hj
          rw [hd, h1]
          have hj0 : (0 : Int) ≤ (j : Int) := by omega
          have hjl : (j : Int) < (l.length : Int) := by omega
          clear hd h0 h1 e0 e1
          go_quiet ((go_at_call 12; exact Calls.quiet_of_same (len_calls _ (HN4.out.c.below (below_drewN (Below.refl _ _) _)))))
          go_wp2
          go_meet
          case rel => exact ⟨rfl, below_drewN (Below.refl _ _) _⟩
      case rest =>
        obtain ⟨rfl, hb5⟩ := hcut
        have HN5 := Lib.hid (HN4.out.below hb5)
        have HB5 := Lib.hid (HB4.out.trans (hb5.mono HB4.out.size))
        have y0 : wc.cell? ⟨gx, 0, none⟩ = some (.pointer (some ⟨p, 0, none⟩)) := HN5.out.bx.cell 0
        obtain ⟨ga, hga⟩ : ∃ g, wc.heap.size = g := ⟨_, rfl⟩
        clear hb5 HN4 HB4 HN HB
        have y1 : ((wc.alloc (.cells #[.int .i64 (-1)] 3)).alloc (.cells #[.int .i64 0] 3)).cell? ⟨gx, 0, none⟩ = some (.pointer (some ⟨p, 0, none⟩)) := ((HN5.out.bx.alloc _).alloc _).cell 0
        go_wp2_with (fail)
        refine (all_calls p _).mono ?_
        rintro e w' ⟨rfl, rfl⟩
        obtain ⟨W8, hW8⟩ : ∃ W, (((wc.alloc (.cells #[.int .i64 (-1)] 3)).alloc (.cells #[.int .i64 0] 3)).alloc (.cells #[.pointer (some ⟨p, 0, none⟩)] 23)) = W := ⟨_, rfl⟩
        have s1 : ∀ (v : World) (o : Obj), (v.alloc o).heap.size = v.heap.size + 1 := fun v o => by simp
        have hb8 : Below wc.heap.size wc W8 := hW8 ▸ (((Below.refl _ _).alloc (Nat.le_refl _) _).alloc (by simp) _).alloc (by simp; omega) _
        have ba : Blk W8 ga 3 #[.int .i64 (-1)] := by rw [← hW8, ← hga]; exact ((Blk.new wc _ _).alloc _).alloc _
        have bs : Blk W8 (ga + 1) 3 #[.int .i64 0] := by
          rw [← hW8, ← hga]; have h := Blk.new (wc.alloc (.cells #[.int .i64 (-1)] 3)) 3 #[.int .i64 0]; rw [s1] at h; exact h.alloc _
        have bb : Blk W8 (ga + 1 + 1) 23 #[.pointer (some ⟨p, 0, none⟩)] := by
          rw [← hW8, ← hga]; have h := Blk.new ((wc.alloc (.cells #[.int .i64 (-1)] 3)).alloc (.cells #[.int .i64 0] 3)) 23 #[.pointer (some ⟨p, 0, none⟩)]; rw [s1, s1] at h; exact h
        have hs8 : W8.heap.size = ga + 3 := by rw [← hW8]; simp [s1, hga]
        have HN8 := Lib.hid (HN5.out.below hb8)
        have HB8 := Lib.hid (HB5.out.trans (hb8.mono HB5.out.size))
        have hgc2 : gc < ga := by have := HN5.out.bc.lt; omega
        have hold : ∀ i, OfC p sv i → i < ga := fun i hi => hga ▸ HN5.out.c.of_lt hi
        have hwb : w.heap.size ≤ ga := by have := HB5.out.size; omega
        have HU := Lib.hid HN5.out.c.up
        have HII := Lib.hid (show NwI w.heap.size W8 g0 gx gc p ga sv L [] from ⟨ba, bs, bb, HN8.out⟩)
        have HOLD := Lib.hid hold
        rw [hW8, show (((wc.alloc (.cells #[.int .i64 (-1)] 3)).alloc (.cells #[.int .i64 0] 3)).heap.size = ga + 1 + 1) by rw [s1, s1, hga]]
        clear hW8 s1 hb8 ba bs bb hga hold HN5 HB5 y1
        go_wp2_with (fail)
        have hKlt : ∀ i, WalkK (ga + 1 + 1) p sv i → i < W8.heap.size := by
          rintro i (rfl | hi)
          · rw [hs8]; omega
          · have := HOLD.out i hi; omega
        refine (wpIn_wide (n := 3)).1 ?_
        refine wpIn_rangeFunc_ownG (F := Fence.wide) rfl (by omega) (gf := 34) (lb := #[.pointer (some ⟨ga + 1 + 1, 0, none⟩)]) rfl trivial (enters_of Tryd.func34 (by kernel_rfl) rfl)
          (all_stops 2 (by omega) (ga + 1 + 1) p sv L W8 HII.out.x HII.out.n.c) KeepK.trans (KeepK.put hKlt) (Below.refl _ _) (fun _ => rfl)
          (fun pre W => NwI w.heap.size W g0 gx gc p ga sv L pre ∧ Below w.heap.size w W)
          (fun _ pre _ => ¬ pre <+: L)
          (OwnFrom.and (Own.from (fun s A B row hs hg hr => hs.kept hg hr) _) (ownFrom_below (Nat.le_refl _) (by rw [hs8]; omega)))
          (fun _ _ _ _ _ hs _ _ => hs)
          ⟨HII.out, HB8.out⟩
          ?a1 ?assign ?body ?done ?stop
        case assign =>
          intro l x W K hK
          gi_wp2
          exact hK
        case body =>
          rintro l2 pre x W ⟨hI, hB⟩ hpl
          have y0 : W.cell? ⟨gx, 0, none⟩ = some (.pointer (some ⟨p, 0, none⟩)) := hI.n.bx.cell 0
          have HI := Lib.hid hI
          have HB := Lib.hid hB
          clear hI hB
          gi_wp2_with (fail)
          refine ⟨trivial, ?_⟩
          refine (CallsIn.inRound l2 (callsIn_wide.2 (at_calls x.n W HI.out.n.c))).mono ?_
          rintro e w1 ⟨rfl, hb1⟩
          have HK1 := Lib.hid (keeps_below hb1)
          have HKK := Lib.hid (KeepK.of_below hb1 (K := WalkK (ga + 1 + 1) p sv) (by
            rintro i (rfl | hi)
            · exact HI.out.x.lt
            · exact HI.out.n.c.of_lt hi))
          have HI1 := Lib.hid (HI.out.below hb1)
          have HB1 := Lib.hid (HB.out.trans (hb1.mono HB.out.size))
          have y1 : w1.cell? ⟨ga, 0, none⟩ = some (.int .i64 (lastNo pre)) := HI1.out.a.cell 0
          have z1 : w1.frozen? ⟨ga, 0, none⟩ = false := HI1.out.a.frozen 0
          have y2 : w1.cell? ⟨ga + 1, 0, none⟩ = some (.int .i64 pre.length) := HI1.out.s.cell 0
          have z2 : w1.frozen? ⟨ga + 1, 0, none⟩ = false := HI1.out.s.frozen 0
          have y3 : w1.cell? ⟨gc, 0, none⟩ = some (.int .i64 L.length) := HI1.out.n.bc.cell 0
          have z4 : w1.frozen? ⟨g0, 0, none⟩ = false := HI1.out.n.b0.frozen 0
          have y4 : w1.cell? ⟨g0, 0, none⟩ = some (.bool false) := HI1.out.n.b0.cell 0
          have hcg : gc ≠ ga := by omega
          have hcg1 : gc ≠ ga + 1 := by omega
          have hLn : pre.length ≤ 5864062014805 := by have := HI.out.n.c.len; omega
          have hnx : ¬ (lastNo pre < x.n ∧ 0 < leN L x.n ∧ atV L x.n = x.v) → ¬ (pre ++ [x]) <+: L := fun h h2 => h (at_next HU.out h2)
          have HNX := Lib.hid hnx
          clear hb1 hnx
          by_cases hk1 : x.n ≤ lastNo pre
          · gi_wp2
            exact ⟨(HK1.out.trans (KeepsOthers.setCell _ _ _)).from _, HNX.out (fun h => by omega)⟩
          · obtain ⟨d, hd⟩ : ∃ d, decide (0 < leN L x.n) = d := ⟨_, rfl⟩
            rw [hd]
            cases d with
            | false =>
              have HD := Lib.hid hd
              clear hd
              gi_wp2
              exact ⟨(HK1.out.trans (KeepsOthers.setCell _ _ _)).from _, HNX.out (fun h => by have := of_decide_eq_false HD.out; omega)⟩
            | true =>
              obtain ⟨u, hu⟩ : ∃ u, atV L x.n = u := ⟨_, rfl⟩
              rw [hu]
              have HUU := Lib.hid hu
              clear hd hu
              by_cases huv : (u.toList == x.v.toList) = true
              · have hp1 : ¬ (L.length : Int) < (pre.length : Int) + 1 := by omega
                gi_wp2
                refine ⟨(HK1.out.trans ((KeepsOthers.setCell _ _ _).trans (KeepsOthers.setCell _ _ _))).from _, ?_, ?_, ?_⟩
                · refine (HKK.out.setCell (p := ⟨ga, 0, none⟩) ?_ _).setCell (p := ⟨ga + 1, 0, none⟩) ?_ _
                  · rintro (h | h)
                    · simp at h; omega
                    · have := HOLD.out _ h; simp at this
                  · rintro (h | h)
                    · simp at h
                    · have := HOLD.out _ h; simp at this; omega
                · exact HI1.out.turn hgc2 x
                · exact (HB1.out.setCell (p := ⟨ga, 0, none⟩) hwb _).setCell (p := ⟨ga + 1, 0, none⟩) (by show w.heap.size ≤ ga + 1; omega) _
              · have huv2 : (u.toList == x.v.toList) = false := by simpa using huv
                have HV := Lib.hid huv
                clear huv
                gi_wp2
                exact ⟨(HK1.out.trans (KeepsOthers.setCell _ _ _)).from _, HNX.out (fun h => HV.out (by rw [← HUU.out, h.2.2]; simp))⟩
        case done =>
          rintro D ys W hD rfl ⟨hI, hB⟩ hK
          have y1 : W.cell? ⟨ga, 0, none⟩ = some (.int .i64 (lastNo ys)) := hI.a.cell 0
          have y2 : W.cell? ⟨ga + 1, 0, none⟩ = some (.int .i64 ys.length) := hI.s.cell 0
          have y3 : W.cell? ⟨gc, 0, none⟩ = some (.int .i64 ys.length) := hI.n.bc.cell 0
          have z4 : W.frozen? ⟨g0, 0, none⟩ = false := hI.n.b0.frozen 0
          have y4 : W.cell? ⟨g0, 0, none⟩ = some (.bool false) := hI.n.b0.cell 0
          have HI := Lib.hid hI
          have HB := Lib.hid hB
          have HK := Lib.hid hK
          clear hI hB hK
          go_wp2_with (fail)
          have hne : D ≠ g0 := by rw [hs8] at hD; have := HI.out.n.b0.lt; have h2 := HN8.out.b0.lt; omega
          have hK' : (W.setCell ⟨g0, 0, none⟩ (.bool true)).heap[D]? = some (.deferred (some [])) := (Below.heap_setCell W ⟨g0, 0, none⟩ (.bool true) D hne).trans HK.out
          refine ⟨by simp, .inl ⟨_, _, rfl, run_takeDeferred hK', ?_⟩⟩
          have e0 : ((W.setCell ⟨g0, 0, none⟩ (.bool true)).putObj D (.deferred none)).cell? ⟨g0, 0, none⟩ = some (.bool true) := (blk_put (W := W.setCell ⟨g0, 0, none⟩ (.bool true)) (o := .deferred (some [])) (HI.out.n.b0.set_ 0 (.bool true)) hK' rfl (.deferred none)).cell 0
          refine ⟨.bool true, ?_, rfl, (HB.out.setCell (p := ⟨g0, 0, none⟩) (by show w.heap.size ≤ g0; omega) (.bool true)).trans (belowK_b (w := w) (Nat.le_refl _) _ D _ _ (by rw [hs8] at hD; omega) hK' rfl rfl)⟩
          simp [results, Tryd.f3, go_sem, e0]
        case stop =>
          rintro D c pre W _ h1 h2 _
          exact absurd h1 h2
end Go.Proofs.YtmljiegeingpeaaDoor
