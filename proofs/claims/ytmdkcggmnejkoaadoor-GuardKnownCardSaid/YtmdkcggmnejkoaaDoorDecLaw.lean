/- Law GuardDecode: its walk (printed by gen_declaw.py). -/
import Derived.Test.YtmdkcggmnejkoaaDoorRefDec2
import Derived.Test.YtmdkcggmnejkoaaDoorEncLaw
import Derived.Test.YtmdkcggmnejkoaaDoorApartLegs
import Derived.Test.YtmdkcggmnejkoaaDoorApartKeys
namespace Go.Proofs.YtmdkcggmnejkoaaDoor
set_option linter.unusedSimpArgs false
set_option linter.unusedVariables false
open Go.RowKit

theorem fin_num (res : Option (OpM × List Int)) : 0 ≤ (fin res).2 ∧ (fin res).2 ≤ 24 := by
  match res with
  | none => exact ⟨by decide, by decide⟩
  | some (o, []) => exact ⟨Int.le_refl 0, by show (0 : Int) ≤ 24; decide⟩
  | some (_, _ :: _) => exact ⟨by show (0 : Int) ≤ 3; decide, by show (3 : Int) ≤ 24; decide⟩
theorem dec_num (raw : List Int) : 0 ≤ (decodeG raw).2 ∧ (decodeG raw).2 ≤ 24 := by
  match raw with
  | [] => exact ⟨by decide, by decide⟩
  | c :: r =>
    have e : decodeG (c :: r) = (match rdOf c r with | some res => fin res | none => (OpM.zero, 13)) := rfl
    rw [e]
    cases rdOf c r with
    | none => exact ⟨by show (0 : Int) ≤ 13; decide, by show (13 : Int) ≤ 24; decide⟩
    | some res => exact fin_num res
/-- A row of the call's own, as Apart takes it. -/
theorem own_fil {s : Nat} {M : Mark s} {e : TypeId} {w : World} {B B0 n c : Nat} {A : Option Addr} {xs : List Value} {ow : Nat → Nat} {k : Nat} (h : w.ownsRow B e s (.slice A n c) n xs) (hB : B0 ≤ B) (how : ∀ b, B ≤ b → b < w.heap.size → ow b = k) : Fil M e ow B0 w (.slice A n c) k n 0 := by
  rcases h.2 with ⟨h1, h2⟩ | ⟨g, cap, cur, h1, h2, h3, h4, h5, h6, _⟩
  · exact .inl ⟨h1, h2⟩
  · injection h1 with h1 _ h7
    subst h1 h7
    exact .inr ⟨g, c, cur, rfl, by omega, how g h2 (Blk.lt h3), h3, by omega, h4, h5, Nat.zero_le _, fun i hi => by omega⟩

set_option maxRecDepth 100000 in
set_option maxHeartbeats 8000000 in
theorem lawDecode_calls (raw : List Int) (rA : Option Addr) (rc : Nat) (w : World) (rR : Reads w w.heap.size 1 rA raw.length (intsC raw)) (hrl : raw.length * 8 ≤ 140737488351232) (hrc : raw.length ≤ rc) (hG : HG w) :
    Calls Tryd.prog 6 #[.slice rA raw.length rc] w fun e w' => e = .returned (.bool true) ∧ Below w.heap.size w w' := by
  obtain ⟨hE0, hE1⟩ := dec_num raw
  obtain ⟨hn5, hn2⟩ := dec_len raw
  have hlen : raw.length ≤ 17592186044416 := by omega
  obtain ⟨D, hD⟩ : ∃ D, decodeG raw = D := ⟨_, rfl⟩
  rw [hD] at hE0 hE1 hn5 hn2
  obtain ⟨⟨xc, xa, xb, xq, xn, xi, xl, xp⟩, E⟩ := D
  dsimp only at hE0 hE1 hn5 hn2
  have HD := Lib.hid hD
  clear hD
  go_enter Tryd.func6, Tryd.ntmps6
  go_wp2_with (fail)
  refine (refdec_calls rA rc raw w rR hrc hlen).mono ?_
  rintro e w1 ⟨L, P, he, hWL, hWP, hb1⟩
  rw [HD.out] at he hWL hWP
  obtain ⟨WA, Wc, rfl⟩ := own_slice_n hWL
  obtain ⟨WB, Wd, rfl⟩ := own_slice_n hWP
  simp only [OpM.cs, opCs] at he hWL hWP
  subst he
  have B := hb1
  clear hb1
  go_wp2_with (fail)
  obtain ⟨V1, hV1⟩ : ∃ V, w1.alloc (.cells #[.int .i64 xc, .int .i64 xa, .int .i64 xb, .int .i64 xq, .int .i64 xn, .int .i64 xi, .slice WA xl.length Wc, .slice WB xp.length Wd] 33) = V := ⟨_, rfl⟩
  have bw : Blk V1 w1.heap.size 33 #[.int .i64 xc, .int .i64 xa, .int .i64 xb, .int .i64 xq, .int .i64 xn, .int .i64 xi, .slice WA xl.length Wc, .slice WB xp.length Wd] := hV1 ▸ Blk.new _ _ _
  have hA : Below w1.heap.size w1 V1 := hV1 ▸ alloc_here _ _
  rw [hV1]
  clear hV1
  have sgw : w.heap.size ≤ w1.heap.size := B.size
  replace hWL := hop_own hWL hA
  replace hWP := hop_own hWP hA
  replace B := B.trans (hA.mono B.size)
  clear hA
  generalize w1.heap.size = gw at bw sgw
  have sV1 := B.size
  refine (lentLongs_calls raw rA rc V1.heap.size V1 (rR.hop B) (Nat.le_refl _) hrl).mono ?_
  rintro e w2 ⟨gl, ql, rfl, hql, hl, hb2⟩
  replace bw := bw.hop hb2
  replace hWL := hop_own hWL hb2
  replace hWP := hop_own hWP hb2
  replace B := B.trans (hb2.mono B.size)
  have sgl : w.heap.size ≤ gl := by
    have h1 := own_base hl (k := gl) (by simp [Value.ownBlock])
    omega
  clear hb2
  have r1 := Reads.pre (enc := Int.cs) (fun _ => rfl) (Reads.of_own hl) (by rw [markLongss_len])
  go_wp2_with (fail)
  refine (decode_calls _ ql raw w2 r1 (by omega) hlen).mono ?_
  rintro e w3 ⟨L, P, he, hPL, hPP, hb3⟩
  rw [HD.out] at he hPL hPP
  obtain ⟨PA, Pc, rfl⟩ := own_slice_n hPL
  obtain ⟨PB, Pd, rfl⟩ := own_slice_n hPP
  simp only [OpM.cs, opCs] at he hPL hPP
  subst he
  have s2 := B.size
  replace bw := bw.hop hb3
  replace r1 := r1.hop hb3
  replace hWL := hop_own hWL hb3
  replace hWP := hop_own hWP hb3
  replace hl := hop_own hl hb3
  replace B := B.trans (hb3.mono B.size)
  clear hb3
  go_wp2_with (fail)
  obtain ⟨V3, hV3⟩ : ∃ V, w3.alloc (.cells #[.int .i64 xc, .int .i64 xa, .int .i64 xb, .int .i64 xq, .int .i64 xn, .int .i64 xi, .slice PA xl.length Pc, .slice PB xp.length Pd] 33) = V := ⟨_, rfl⟩
  have bp : Blk V3 w3.heap.size 33 #[.int .i64 xc, .int .i64 xa, .int .i64 xb, .int .i64 xq, .int .i64 xn, .int .i64 xi, .slice PA xl.length Pc, .slice PB xp.length Pd] := hV3 ▸ Blk.new _ _ _
  have hA : Below w3.heap.size w3 V3 := hV3 ▸ alloc_here _ _
  rw [hV3]
  clear hV3
  replace bw := bw.hop hA
  replace r1 := r1.hop hA
  replace hWL := hop_own hWL hA
  replace hWP := hop_own hWP hA
  replace hl := hop_own hl hA
  replace hPL := hop_own hPL hA
  replace hPP := hop_own hPP hA
  replace B := B.trans (hA.mono B.size)
  clear hA
  generalize w3.heap.size = g1 at bp
  refine (decode_calls _ ql raw V3 r1 (by omega) hlen).mono ?_
  rintro e w4 ⟨L, P, he, hQL, hQP, hb4⟩
  rw [HD.out] at he hQL hQP
  obtain ⟨QA, Qc, rfl⟩ := own_slice_n hQL
  obtain ⟨QB, Qd, rfl⟩ := own_slice_n hQP
  simp only [OpM.cs, opCs] at he hQL hQP
  subst he
  have s3 := B.size
  have fPL : Fil legsMark 45 (fun b => if b < V3.heap.size then 0 else 1) w.heap.size V3 (.slice PA xl.length Pc) 0 xl.length 0 := own_fil hPL s2 (fun b _ hb => if_pos hb)
  have fPP : Fil keysMark 47 (fun b => if b < V3.heap.size then 0 else 1) w.heap.size V3 (.slice PB xp.length Pd) 0 xp.length 0 := own_fil hPP s2 (fun b _ hb => if_pos hb)
  have fQL : Fil legsMark 45 (fun b => if b < V3.heap.size then 0 else 1) w.heap.size w4 (.slice QA xl.length Qc) 1 xl.length 0 := own_fil hQL s3 (fun b hb _ => if_neg (by omega))
  have fQP : Fil keysMark 47 (fun b => if b < V3.heap.size then 0 else 1) w.heap.size w4 (.slice QB xp.length Qd) 1 xp.length 0 := own_fil hQP s3 (fun b hb _ => if_neg (by omega))
  replace bw := bw.hop hb4
  replace bp := bp.hop hb4
  replace hWL := hop_own hWL hb4
  replace hWP := hop_own hWP hb4
  replace hl := hop_own hl hb4
  replace hPL := hop_own hPL hb4
  replace hPP := hop_own hPP hb4
  replace fPL := fPL.up hb4
  replace fPP := fPP.up hb4
  replace B := B.trans (hb4.mono B.size)
  generalize (fun b => if b < V3.heap.size then 0 else 1) = ow at fPL fPP fQL fQP
  clear hb4 r1
  go_wp2_with (fail)
  obtain ⟨V4, hV4⟩ : ∃ V, w4.alloc (.cells #[.int .i64 xc, .int .i64 xa, .int .i64 xb, .int .i64 xq, .int .i64 xn, .int .i64 xi, .slice QA xl.length Qc, .slice QB xp.length Qd] 33) = V := ⟨_, rfl⟩
  have bq : Blk V4 w4.heap.size 33 #[.int .i64 xc, .int .i64 xa, .int .i64 xb, .int .i64 xq, .int .i64 xn, .int .i64 xi, .slice QA xl.length Qc, .slice QB xp.length Qd] := hV4 ▸ Blk.new _ _ _
  have hA : Below w4.heap.size w4 V4 := hV4 ▸ alloc_here _ _
  rw [hV4]
  clear hV4
  replace bw := bw.hop hA
  replace bp := bp.hop hA
  replace hWL := hop_own hWL hA
  replace hWP := hop_own hWP hA
  replace hl := hop_own hl hA
  replace hPL := hop_own hPL hA
  replace hPP := hop_own hPP hA
  replace hQL := hop_own hQL hA
  replace hQP := hop_own hQP hA
  replace fPL := fPL.up hA
  replace fPP := fPP.up hA
  replace fQL := fQL.up hA
  replace fQP := fQP.up hA
  replace B := B.trans (hA.mono B.size)
  clear hA
  generalize w4.heap.size = g2 at bq
  refine (plain_errV E E V4 hE0 hE1 (hG.below B)).mono ?_
  rintro e w5 ⟨rfl, hb5⟩
  rw [beq_self_eq_true]
  replace bw := bw.hop hb5
  replace bp := bp.hop hb5
  replace bq := bq.hop hb5
  replace hWL := hop_own hWL hb5
  replace hWP := hop_own hWP hb5
  replace hl := hop_own hl hb5
  replace hPL := hop_own hPL hb5
  replace hPP := hop_own hPP hb5
  replace hQL := hop_own hQL hb5
  replace hQP := hop_own hQP hb5
  replace fPL := fPL.up hb5
  replace fPP := fPP.up hb5
  replace fQL := fQL.up hb5
  replace fQP := fQP.up hb5
  replace B := B.trans (hb5.mono B.size)
  clear hb5
  go_wp2_with (fail)
  refine (plain_errV E E w5 hE0 hE1 (hG.below B)).mono ?_
  rintro e w6 ⟨rfl, hb6⟩
  rw [beq_self_eq_true]
  replace bw := bw.hop hb6
  replace bp := bp.hop hb6
  replace bq := bq.hop hb6
  replace hWL := hop_own hWL hb6
  replace hWP := hop_own hWP hb6
  replace hl := hop_own hl hb6
  replace hPL := hop_own hPL hb6
  replace hPP := hop_own hPP hb6
  replace hQL := hop_own hQL hb6
  replace hQP := hop_own hQP hb6
  replace fPL := fPL.up hb6
  replace fPP := fPP.up hb6
  replace fQL := fQL.up hb6
  replace fQP := fQP.up hb6
  replace B := B.trans (hb6.mono B.size)
  clear hb6
  have k0 : w6.cell? ⟨g1, 0, none⟩ = some (.int .i64 xc) := bp.cell 0
  have k1 : w6.cell? ⟨g1, 1, none⟩ = some (.int .i64 xa) := bp.cell 1
  have k2 : w6.cell? ⟨g1, 2, none⟩ = some (.int .i64 xb) := bp.cell 2
  have k3 : w6.cell? ⟨g1, 3, none⟩ = some (.int .i64 xq) := bp.cell 3
  have k4 : w6.cell? ⟨g1, 4, none⟩ = some (.int .i64 xn) := bp.cell 4
  have k5 : w6.cell? ⟨g1, 5, none⟩ = some (.int .i64 xi) := bp.cell 5
  have k6 : w6.cell? ⟨g1, 6, none⟩ = some (.slice PA xl.length Pc) := bp.cell 6
  have k7 : w6.cell? ⟨g1, 7, none⟩ = some (.slice PB xp.length Pd) := bp.cell 7
  have m0 : w6.cell? ⟨gw, 0, none⟩ = some (.int .i64 xc) := bw.cell 0
  have m1 : w6.cell? ⟨gw, 1, none⟩ = some (.int .i64 xa) := bw.cell 1
  have m2 : w6.cell? ⟨gw, 2, none⟩ = some (.int .i64 xb) := bw.cell 2
  have m3 : w6.cell? ⟨gw, 3, none⟩ = some (.int .i64 xq) := bw.cell 3
  have m4 : w6.cell? ⟨gw, 4, none⟩ = some (.int .i64 xn) := bw.cell 4
  have m5 : w6.cell? ⟨gw, 5, none⟩ = some (.int .i64 xi) := bw.cell 5
  have m6 : w6.cell? ⟨gw, 6, none⟩ = some (.slice WA xl.length Wc) := bw.cell 6
  have m7 : w6.cell? ⟨gw, 7, none⟩ = some (.slice WB xp.length Wd) := bw.cell 7
  go_wp2_with (fail)
  refine (sameOp_calls (⟨xc, xa, xb, xq, xn, xi, xl, xp⟩ : Op) (⟨xc, xa, xb, xq, xn, xi, xl, xp⟩ : Op) PA PB WA WB Pc Pd Wc Wd w6 (Reads.of_own hPL) (Reads.of_own hPP) (Reads.of_own hWL) (Reads.of_own hWP) (by dsimp only; omega) (by dsimp only; omega)).mono ?_
  rintro e w7 ⟨rfl, hbs⟩
  rw [decide_eq_true rfl]
  clear k0 k1 k2 k3 k4 k5 k6 k7
  clear m0 m1 m2 m3 m4 m5 m6 m7
  replace bw := bw.hop hbs
  replace bp := bp.hop hbs
  replace bq := bq.hop hbs
  replace hWL := hop_own hWL hbs
  replace hWP := hop_own hWP hbs
  replace hl := hop_own hl hbs
  replace hPL := hop_own hPL hbs
  replace hPP := hop_own hPP hbs
  replace hQL := hop_own hQL hbs
  replace hQP := hop_own hQP hbs
  replace fPL := fPL.up hbs
  replace fPP := fPP.up hbs
  replace fQL := fQL.up hbs
  replace fQP := fQP.up hbs
  replace B := B.trans (hbs.mono B.size)
  clear hbs
  have k0 : w7.cell? ⟨g2, 0, none⟩ = some (.int .i64 xc) := bq.cell 0
  have k1 : w7.cell? ⟨g2, 1, none⟩ = some (.int .i64 xa) := bq.cell 1
  have k2 : w7.cell? ⟨g2, 2, none⟩ = some (.int .i64 xb) := bq.cell 2
  have k3 : w7.cell? ⟨g2, 3, none⟩ = some (.int .i64 xq) := bq.cell 3
  have k4 : w7.cell? ⟨g2, 4, none⟩ = some (.int .i64 xn) := bq.cell 4
  have k5 : w7.cell? ⟨g2, 5, none⟩ = some (.int .i64 xi) := bq.cell 5
  have k6 : w7.cell? ⟨g2, 6, none⟩ = some (.slice QA xl.length Qc) := bq.cell 6
  have k7 : w7.cell? ⟨g2, 7, none⟩ = some (.slice QB xp.length Qd) := bq.cell 7
  have m0 : w7.cell? ⟨gw, 0, none⟩ = some (.int .i64 xc) := bw.cell 0
  have m1 : w7.cell? ⟨gw, 1, none⟩ = some (.int .i64 xa) := bw.cell 1
  have m2 : w7.cell? ⟨gw, 2, none⟩ = some (.int .i64 xb) := bw.cell 2
  have m3 : w7.cell? ⟨gw, 3, none⟩ = some (.int .i64 xq) := bw.cell 3
  have m4 : w7.cell? ⟨gw, 4, none⟩ = some (.int .i64 xn) := bw.cell 4
  have m5 : w7.cell? ⟨gw, 5, none⟩ = some (.int .i64 xi) := bw.cell 5
  have m6 : w7.cell? ⟨gw, 6, none⟩ = some (.slice WA xl.length Wc) := bw.cell 6
  have m7 : w7.cell? ⟨gw, 7, none⟩ = some (.slice WB xp.length Wd) := bw.cell 7
  go_wp2_with (fail)
  refine (sameOp_calls (⟨xc, xa, xb, xq, xn, xi, xl, xp⟩ : Op) (⟨xc, xa, xb, xq, xn, xi, xl, xp⟩ : Op) QA QB WA WB Qc Qd Wc Wd w7 (Reads.of_own hQL) (Reads.of_own hQP) (Reads.of_own hWL) (Reads.of_own hWP) (by dsimp only; omega) (by dsimp only; omega)).mono ?_
  rintro e w8 ⟨rfl, hbs⟩
  rw [decide_eq_true rfl]
  clear k0 k1 k2 k3 k4 k5 k6 k7
  clear m0 m1 m2 m3 m4 m5 m6 m7
  replace bw := bw.hop hbs
  replace bp := bp.hop hbs
  replace bq := bq.hop hbs
  replace hWL := hop_own hWL hbs
  replace hWP := hop_own hWP hbs
  replace hl := hop_own hl hbs
  replace hPL := hop_own hPL hbs
  replace hPP := hop_own hPP hbs
  replace hQL := hop_own hQL hbs
  replace hQP := hop_own hQP hbs
  replace fPL := fPL.up hbs
  replace fPP := fPP.up hbs
  replace fQL := fQL.up hbs
  replace fQP := fQP.up hbs
  replace B := B.trans (hbs.mono B.size)
  clear hbs
  go_wp2_with (fail)
  refine (keptLongs_calls raw gl rA ql rc w8.heap.size w8 (Reads.of_own hl) hql (rR.hop B) (Nat.le_refl _) (by omega)).mono ?_
  rintro e w9 ⟨rfl, hb9⟩
  replace bw := bw.hop hb9
  replace bp := bp.hop hb9
  replace bq := bq.hop hb9
  replace hWL := hop_own hWL hb9
  replace hWP := hop_own hWP hb9
  replace hl := hop_own hl hb9
  replace hPL := hop_own hPL hb9
  replace hPP := hop_own hPP hb9
  replace hQL := hop_own hQL hb9
  replace hQP := hop_own hQP hb9
  replace fPL := fPL.up hb9
  replace fPP := fPP.up hb9
  replace fQL := fQL.up hb9
  replace fQP := fQP.up hb9
  replace B := B.trans (hb9.mono B.size)
  clear hb9
  obtain ⟨cur0, hc0, hc1⟩ := own_block hl (by omega)
  go_wp2_with (fail)
  go_loopw [10] (fun j wr => ∃ k : Nat, k ≤ raw.length ∧ j = .int .i64 k ∧ World.grownBy w9 wr (some gl) ∧ ∃ cur, Blk wr gl 2 cur ∧ raw.length ≤ cur.size) (fun j _ => raw.length - (intOf j).toNat)
  case atStart => exact ⟨0, Nat.zero_le _, rfl, ⟨rfl, rfl, rfl, Nat.le_refl _, fun _ _ _ => rfl⟩, cur0, hc0, by omega⟩
  case round =>
    obtain ⟨k, hk, rfl, hgr, cur, hbk, hsz⟩ := hrel
    by_cases hlt : k < raw.length
    · have hkl : (k : Int) < raw.length := by omega
      have hk0 : (0 : Int) ≤ k := by omega
      obtain ⟨u0, z0⟩ : ∃ u, wr.cell? ⟨gl, k, none⟩ = some u := by rw [hbk.cell]; exact ⟨_, Array.getElem?_eq_getElem (by omega)⟩
      have f0 : wr.frozen? ⟨gl, k, none⟩ = false := hbk.frozen _
      obtain ⟨cur', hbk', hsz'⟩ := blk_setCells [.int .i64 7] k wr cur hbk
      have hgr' := hgr.trans (grown_setCells (g := gl) [.int .i64 7] k wr)
      go_wp2
      go_roundw
      case rel => exact ⟨k + 1, by omega, by go_num, hgr', cur', hbk', by omega⟩
      case measure => simp [intOf]; omega
    · obtain rfl : k = raw.length := by omega
      have htt : ∀ b, (some gl : Option Nat) = some b → ∃ cur, Blk w9 b 2 cur := fun b hb => by injection hb with hb; subst hb; exact ⟨_, hc0⟩
      replace bw := blk_types bw hgr htt (by decide)
      replace bp := blk_types bp hgr htt (by decide)
      replace bq := blk_types bq hgr htt (by decide)
      replace hWL := own_types hWL hgr htt (by decide)
      replace hWP := own_types hWP hgr htt (by decide)
      replace hPL := own_types hPL hgr htt (by decide)
      replace hPP := own_types hPP hgr htt (by decide)
      replace hQL := own_types hQL hgr htt (by decide)
      replace hQP := own_types hQP hgr htt (by decide)
      replace fPL := fPL.keep (ow' := ow) (fun b _ hb _ => hgr.block b hb.lt (fun he => by injection he with he; subst he; exact Blk.ne_ hb hc0 (by decide) rfl)) (fun _ _ => rfl)
      replace fPP := fPP.keep (ow' := ow) (fun b _ hb _ => hgr.block b hb.lt (fun he => by injection he with he; subst he; exact Blk.ne_ hb hc0 (by decide) rfl)) (fun _ _ => rfl)
      replace fQL := fQL.keep (ow' := ow) (fun b _ hb _ => hgr.block b hb.lt (fun he => by injection he with he; subst he; exact Blk.ne_ hb hc0 (by decide) rfl)) (fun _ _ => rfl)
      replace fQP := fQP.keep (ow' := ow) (fun b _ hb _ => hgr.block b hb.lt (fun he => by injection he with he; subst he; exact Blk.ne_ hb hc0 (by decide) rfl)) (fun _ _ => rfl)
      replace B := B.grown hgr B.size (fun b hb => by injection hb with hb; omega)
      rename World => W10
      clear hc0 hc1 htt hgr hbk hsz hl hlt
      have k0 : W10.cell? ⟨g1, 0, none⟩ = some (.int .i64 xc) := bp.cell 0
      have k1 : W10.cell? ⟨g1, 1, none⟩ = some (.int .i64 xa) := bp.cell 1
      have k2 : W10.cell? ⟨g1, 2, none⟩ = some (.int .i64 xb) := bp.cell 2
      have k3 : W10.cell? ⟨g1, 3, none⟩ = some (.int .i64 xq) := bp.cell 3
      have k4 : W10.cell? ⟨g1, 4, none⟩ = some (.int .i64 xn) := bp.cell 4
      have k5 : W10.cell? ⟨g1, 5, none⟩ = some (.int .i64 xi) := bp.cell 5
      have k6 : W10.cell? ⟨g1, 6, none⟩ = some (.slice PA xl.length Pc) := bp.cell 6
      have k7 : W10.cell? ⟨g1, 7, none⟩ = some (.slice PB xp.length Pd) := bp.cell 7
      have m0 : W10.cell? ⟨gw, 0, none⟩ = some (.int .i64 xc) := bw.cell 0
      have m1 : W10.cell? ⟨gw, 1, none⟩ = some (.int .i64 xa) := bw.cell 1
      have m2 : W10.cell? ⟨gw, 2, none⟩ = some (.int .i64 xb) := bw.cell 2
      have m3 : W10.cell? ⟨gw, 3, none⟩ = some (.int .i64 xq) := bw.cell 3
      have m4 : W10.cell? ⟨gw, 4, none⟩ = some (.int .i64 xn) := bw.cell 4
      have m5 : W10.cell? ⟨gw, 5, none⟩ = some (.int .i64 xi) := bw.cell 5
      have m6 : W10.cell? ⟨gw, 6, none⟩ = some (.slice WA xl.length Wc) := bw.cell 6
      have m7 : W10.cell? ⟨gw, 7, none⟩ = some (.slice WB xp.length Wd) := bw.cell 7
      go_wp2_with (fail)
      refine (sameOp_calls (⟨xc, xa, xb, xq, xn, xi, xl, xp⟩ : Op) (⟨xc, xa, xb, xq, xn, xi, xl, xp⟩ : Op) PA PB WA WB Pc Pd Wc Wd W10 (Reads.of_own hPL) (Reads.of_own hPP) (Reads.of_own hWL) (Reads.of_own hWP) (by dsimp only; omega) (by dsimp only; omega)).mono ?_
      rintro e w11 ⟨rfl, hbs⟩
      rw [decide_eq_true rfl]
      clear k0 k1 k2 k3 k4 k5 k6 k7
      clear m0 m1 m2 m3 m4 m5 m6 m7
      replace bw := bw.hop hbs
      replace bp := bp.hop hbs
      replace bq := bq.hop hbs
      replace hWL := hop_own hWL hbs
      replace hWP := hop_own hWP hbs
      replace hPL := hop_own hPL hbs
      replace hPP := hop_own hPP hbs
      replace hQL := hop_own hQL hbs
      replace hQP := hop_own hQP hbs
      replace fPL := fPL.up hbs
      replace fPP := fPP.up hbs
      replace fQL := fQL.up hbs
      replace fQP := fQP.up hbs
      replace B := B.trans (hbs.mono B.size)
      clear hbs
      have k0 : w11.cell? ⟨g2, 0, none⟩ = some (.int .i64 xc) := bq.cell 0
      have k1 : w11.cell? ⟨g2, 1, none⟩ = some (.int .i64 xa) := bq.cell 1
      have k2 : w11.cell? ⟨g2, 2, none⟩ = some (.int .i64 xb) := bq.cell 2
      have k3 : w11.cell? ⟨g2, 3, none⟩ = some (.int .i64 xq) := bq.cell 3
      have k4 : w11.cell? ⟨g2, 4, none⟩ = some (.int .i64 xn) := bq.cell 4
      have k5 : w11.cell? ⟨g2, 5, none⟩ = some (.int .i64 xi) := bq.cell 5
      have k6 : w11.cell? ⟨g2, 6, none⟩ = some (.slice QA xl.length Qc) := bq.cell 6
      have k7 : w11.cell? ⟨g2, 7, none⟩ = some (.slice QB xp.length Qd) := bq.cell 7
      have m0 : w11.cell? ⟨gw, 0, none⟩ = some (.int .i64 xc) := bw.cell 0
      have m1 : w11.cell? ⟨gw, 1, none⟩ = some (.int .i64 xa) := bw.cell 1
      have m2 : w11.cell? ⟨gw, 2, none⟩ = some (.int .i64 xb) := bw.cell 2
      have m3 : w11.cell? ⟨gw, 3, none⟩ = some (.int .i64 xq) := bw.cell 3
      have m4 : w11.cell? ⟨gw, 4, none⟩ = some (.int .i64 xn) := bw.cell 4
      have m5 : w11.cell? ⟨gw, 5, none⟩ = some (.int .i64 xi) := bw.cell 5
      have m6 : w11.cell? ⟨gw, 6, none⟩ = some (.slice WA xl.length Wc) := bw.cell 6
      have m7 : w11.cell? ⟨gw, 7, none⟩ = some (.slice WB xp.length Wd) := bw.cell 7
      go_wp2_with (fail)
      refine (sameOp_calls (⟨xc, xa, xb, xq, xn, xi, xl, xp⟩ : Op) (⟨xc, xa, xb, xq, xn, xi, xl, xp⟩ : Op) QA QB WA WB Qc Qd Wc Wd w11 (Reads.of_own hQL) (Reads.of_own hQP) (Reads.of_own hWL) (Reads.of_own hWP) (by dsimp only; omega) (by dsimp only; omega)).mono ?_
      rintro e w12 ⟨rfl, hbs⟩
      rw [decide_eq_true rfl]
      clear k0 k1 k2 k3 k4 k5 k6 k7
      clear m0 m1 m2 m3 m4 m5 m6 m7
      replace bw := bw.hop hbs
      replace bp := bp.hop hbs
      replace bq := bq.hop hbs
      replace hWL := hop_own hWL hbs
      replace hWP := hop_own hWP hbs
      replace hPL := hop_own hPL hbs
      replace hPP := hop_own hPP hbs
      replace hQL := hop_own hQL hbs
      replace hQP := hop_own hQP hbs
      replace fPL := fPL.up hbs
      replace fPP := fPP.up hbs
      replace fQL := fQL.up hbs
      replace fQP := fQP.up hbs
      replace B := B.trans (hbs.mono B.size)
      clear hbs
      have k6 : w12.cell? ⟨g1, 6, none⟩ = some (.slice PA xl.length Pc) := bp.cell 6
      have m6 : w12.cell? ⟨g2, 6, none⟩ = some (.slice QA xl.length Qc) := bq.cell 6
      go_wp2_with (fail)
      refine (apartLegs_calls 2 w12.heap.size 2 (fun k => if k = 0 then .slice PA xl.length Pc else .slice QA xl.length Qc) (fun _ => xl.length) ow w.heap.size #[.slice PA xl.length Pc, .slice QA xl.length Qc] _ (Blk.new _ _ _) ?_ ?_ (by omega) (fun j _ => by omega) (by have := B.size; simp; omega)).mono ?_
      · intro k hk
        match k, hk with
        | 0, _ => rfl
        | 1, _ => rfl
      · intro j hj
        match j, hj with
        | 0, _ => exact fPL.up (alloc_here _ _)
        | 1, _ => exact fQL.up (alloc_here _ _)
      rintro e w13 ⟨rfl, hba, hkp⟩
      have hA : Below w12.heap.size w12 (w12.alloc (.cells #[.slice PA xl.length Pc, .slice QA xl.length Qc] 30)) := alloc_here _ _
      replace bp := hkp.out _ _ _ (by decide) (bp.hop hA)
      replace bq := hkp.out _ _ _ (by decide) (bq.hop hA)
      replace fPP := hkp.fil (by decide) (fPP.up hA)
      replace fQP := hkp.fil (by decide) (fQP.up hA)
      replace B := (B.trans (hA.mono B.size)).trans hba
      clear hA hba hkp k6 m6 fPL fQL hWL hWP hPL hPP hQL hQP bw
      have k7 : w13.cell? ⟨g1, 7, none⟩ = some (.slice PB xp.length Pd) := bp.cell 7
      have m7 : w13.cell? ⟨g2, 7, none⟩ = some (.slice QB xp.length Qd) := bq.cell 7
      go_wp2_with (fail)
      refine (apartKeys_calls 2 w13.heap.size 2 (fun k => if k = 0 then .slice PB xp.length Pd else .slice QB xp.length Qd) (fun _ => xp.length) ow w.heap.size #[.slice PB xp.length Pd, .slice QB xp.length Qd] _ (Blk.new _ _ _) ?_ ?_ (by omega) (fun j _ => by omega) (by have := B.size; simp; omega)).mono ?_
      · intro k hk
        match k, hk with
        | 0, _ => rfl
        | 1, _ => rfl
      · intro j hj
        match j, hj with
        | 0, _ => exact fPP.up (alloc_here _ _)
        | 1, _ => exact fQP.up (alloc_here _ _)
      rintro e w14 ⟨rfl, hba, hkp⟩
      go_wp2
      go_ret
      exact ⟨rfl, (B.alloc B.size _).trans hba⟩
end Go.Proofs.YtmdkcggmnejkoaaDoor
