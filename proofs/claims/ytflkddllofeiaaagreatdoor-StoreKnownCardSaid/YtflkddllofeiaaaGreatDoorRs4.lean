/- The document's store in memory: New, at, row. -/
import Derived.Test.YtflkddllofeiaaaGreatDoorAb
import Derived.Test.YtflkddllofeiaaaGreatDoorFlat
import Derived.Test.YtflkddllofeiaaaGreatDoorWideR
import Derived.BigQuiet
import Derived.Test.YtflkddllofeiaaaGreatDoorRn
import Derived.Deep.AppendLies
import Derived.Deep.RegionLaw
import Derived.Test.YtflkddllofeiaaaGreatDoorS9
import Derived.IntWalk
import Derived.Deep.RegionHeld3
namespace Go.Proofs.YtflkddllofeiaaaGreatDoor
set_option linter.unusedSimpArgs false
set_option linter.unusedVariables false
open Go.RowKit Go.MapKept Go.ChangeMaps Go.Maps

theorem own_own_ne {w : World} {b1 b2 s1 s2 n1 n2 : Nat} {t1 t2 : TypeId} {v1 v2 : Value} {xs1 xs2 : List Value} (h : w.ownsRow b1 t1 s1 v1 n1 xs1) (h' : w.ownsRow b2 t2 s2 v2 n2 xs2) (hne : t1 ≠ t2) {i : Nat} (hi : v1.ownBlock = some i) : v2.ownBlock ≠ some i := by
  intro hj
  rcases h.2 with h0 | ⟨g, cap, cur, rfl, h1, h2, h3⟩
  · rw [h0.1] at hi; cases hi
  · cases hi
    exact own_blk_ne h' (show Blk w g t1 cur from h2) hne.symm hj
/-- The versions under a key, as the document's store holds them. -/
structure RRow where
  key : Key
  A : Option Addr
  c : Nat
  L : List VerS
def RRow.v (x : RRow) : Value := .slice x.A x.L.length x.c
def RRow.cs (x : RRow) : List Value := [.int .i64 x.key.acc, .int .i64 x.key.ast, .slice x.A x.L.length x.c]
theorem RRow.len (x : RRow) : x.cs.length = 3 := rfl
def rdC (x : Int × Bool) : List Value := [.int .i64 x.1, .bool x.2]
theorem rdLen (x : Int × Bool) : (rdC x).length = 2 := rfl
theorem infoRRow : (Tryz.prog.info? 77).map (fun i => (i.zero, i.size, i.bytes)) = some (some (.agg #[.int .i64 0, .int .i64 0, .slice none 0 0]), 3, 40) := by kernel_rfl
theorem infoRdr : (Tryz.prog.info? 114).map (fun i => (i.zero, i.size, i.bytes)) = some (some (.agg #[.int .i64 0, .bool false]), 2, 16) := by kernel_rfl
structure RS where
  p : Nat
  sh : Int
  rv : Value
  rows : List RRow
  dv : Value
  rds : List (Int × Bool)
structure RSAt (w : World) (r : RS) : Prop where
  blk : Blk w r.p 48 #[.int .i64 r.sh, r.rv, r.dv]
  row : w.ownsRow 0 77 3 r.rv r.rows.length (r.rows.flatMap RRow.cs)
  vs : ∀ x ∈ r.rows, RowR w x.v x.L
  rd : w.ownsRow 0 114 2 r.dv r.rds.length (r.rds.flatMap rdC)
  up : ∀ x ∈ r.rows, UpV x.L
  mx : ∀ x ∈ r.rows, MaxV x.L
  kn : (r.rows.map (·.key)).Nodup
def RS.of (r : RS) (i : Nat) : Prop := i = r.p ∨ r.rv.ownBlock = some i ∨ r.dv.ownBlock = some i ∨ ∃ x ∈ r.rows, x.v.ownBlock = some i
def RS.rowsA (r : RS) : List (Key × List VerS) := r.rows.map (fun x => (x.key, x.L))
section
variable {w w' : World} {r : RS} {S : Nat → Prop}
theorem rowR_but {v : Value} {l : List VerS} (h : RowR w v l) (hb : But w w' S) (hs : ∀ b, v.ownBlock = some b → ¬ S b) : RowR w' v l := own_but h hb hs
theorem RSAt.but (h : RSAt w r) (hb : But w w' S) (hS : ∀ i, r.of i → ¬ S i) : RSAt w' r :=
  ⟨h.blk.but hb (hS _ (.inl rfl)), own_but h.row hb (fun b hb => hS b (.inr (.inl hb))), fun x hx => rowR_but (h.vs x hx) hb (fun b hb => hS b (.inr (.inr (.inr ⟨x, hx, hb⟩)))), own_but h.rd hb (fun b hb => hS b (.inr (.inr (.inl hb)))), h.up, h.mx, h.kn⟩
theorem RSAt.below (h : RSAt w r) (hb : Below w.heap.size w w') : RSAt w' r := h.but (But.of_below hb (fun _ => False)) (fun _ _ h => h)
theorem RSAt.lt (h : RSAt w r) {i : Nat} (hi : r.of i) : i < w.heap.size := by
  rcases hi with rfl | hi | hi | ⟨x, hx, hi⟩
  · exact h.blk.lt
  · exact own_lt h.row hi
  · exact own_lt h.rd hi
  · exact own_lt (h.vs x hx) hi
theorem RSAt.at_ (h : RSAt w r) {A : Option Addr} {c : Nat} (hv : r.rv = .slice A r.rows.length c) {k : Nat} (hk : k < r.rows.length) :
    ∃ g, A = some ⟨g, 0, none⟩ ∧ w.cell? ⟨g, k * 3, none⟩ = some (.int .i64 r.rows[k].key.acc) ∧ w.cell? ⟨g, k * 3 + 1, none⟩ = some (.int .i64 r.rows[k].key.ast) ∧ w.cell? ⟨g, k * 3 + 2, none⟩ = some (.slice r.rows[k].A r.rows[k].L.length r.rows[k].c) := by
  have hrow := h.row
  rw [hv] at hrow
  obtain ⟨g, rfl⟩ := row_at0 hrow (by omega)
  exact ⟨g, rfl, row_cell RRow.len hrow hk (r := 0) rfl, row_cell RRow.len hrow hk (r := 1) rfl, row_cell RRow.len hrow hk (r := 2) rfl⟩
theorem RSAt.rdAt (h : RSAt w r) {A : Option Addr} {c : Nat} (hv : r.dv = .slice A r.rds.length c) {k : Nat} (hk : k < r.rds.length) :
    ∃ g, A = some ⟨g, 0, none⟩ ∧ w.cell? ⟨g, k * 2, none⟩ = some (.int .i64 r.rds[k].1) ∧ w.cell? ⟨g, k * 2 + 1, none⟩ = some (.bool r.rds[k].2) := by
  have hrd := h.rd
  rw [hv] at hrd
  obtain ⟨g, rfl⟩ := row_at0 hrd (by omega)
  exact ⟨g, rfl, row_cell rdLen hrd hk (r := 0) rfl, row_cell rdLen hrd hk (r := 1) rfl⟩
end
/-- Where a key's row lies. -/
def FindK (rows : List RRow) (k : Key) (z : Int) : Prop := (z = -1 ∧ ∀ x ∈ rows, x.key ≠ k) ∨ ∃ (j : Nat) (hj : j < rows.length), z = j ∧ rows[j].key = k
theorem keyNe {x y : Key} (h : ¬ x = y) : ¬ x.acc = y.acc ∨ (x.acc = y.acc ∧ ¬ x.ast = y.ast) := by
  by_cases h1 : x.acc = y.acc
  · exact .inr ⟨h1, fun h2 => h (by cases x; cases y; simp_all)⟩
  · exact .inl h1
set_option maxRecDepth 100000 in
set_option maxHeartbeats 2000000 in
theorem rfind_calls (r : RS) (k : Key) (w : World) (h : RSAt w r) (hl : r.rows.length ≤ 4611686018427387904) :
    Calls Tryz.prog 99 #[.pointer (some ⟨r.p, 0, none⟩), .agg #[.int .i64 k.acc, .int .i64 k.ast]] w fun e w' => ∃ z, e = .returned (.int .i64 z) ∧ FindK r.rows k z ∧ Below w.heap.size w w' := by
  obtain ⟨A, c, hv⟩ := row_slice h.row
  obtain ⟨W, hW⟩ : ∃ X, w.alloc (.cells #[.int .i64 k.acc, .int .i64 k.ast] 33) = X := ⟨_, rfl⟩
  obtain ⟨g, hg⟩ : ∃ g, w.heap.size = g := ⟨_, rfl⟩
  have hb : Below w.heap.size w W := hW ▸ (Below.refl _ _).alloc (Nat.le_refl _) _
  have hk0 : Blk W g 33 #[.int .i64 k.acc, .int .i64 k.ast] := hg ▸ hW ▸ Blk.new w _ _
  have H := Lib.hid (h.below hb)
  have HV := Lib.hid hv
  have HB := Lib.hid hb
  have HK := Lib.hid hk0
  have HW := Lib.hid hW
  have HG0 := Lib.hid hg
  clear h hv hb hk0 hW hg
  go_enter Tryz.func99, Tryz.ntmps99
  go_wp2_with (fail)
  rw [HW.out, HG0.out]
  go_loopw [5] (fun i wr => ∃ j : Nat, j ≤ r.rows.length ∧ i = .int .i64 j ∧ (∀ x ∈ r.rows.take j, x.key ≠ k) ∧ ∃ n, wr = W.drewN n) (fun i _ => r.rows.length - (intOf i).toNat)
  case atStart => exact ⟨0, Nat.zero_le _, rfl, by simp, 0, rfl⟩
  case round =>
    obtain ⟨j, hj, rfl, hno, n, hwr⟩ := hrel
    have hD : Below W.heap.size W wr := hwr ▸ below_drewN (Below.refl _ _) _
    have H2 := Lib.hid (H.out.below hD)
    have HK2 := Lib.hid (HK.out.below hD HK.out.lt)
    have HN := Lib.hid hno
    have HWR := Lib.hid hwr
    clear hno hwr hD
    have c1 : wr.cell? ⟨r.p, 1, none⟩ = some (.slice A r.rows.length c) := by rw [H2.out.blk.cell 1, HV.out]; rfl
    by_cases hlt : j < r.rows.length
    · have hjl : (j : Int) < r.rows.length := by omega
      obtain ⟨gr, rfl, e0, e1, _⟩ := H2.out.at_ HV.out hlt
      have hT : r.rows.take (j + 1) = r.rows.take j ++ [r.rows[j]] := List.take_succ_eq_append_getElem hlt
      obtain ⟨x, hx⟩ : ∃ x, r.rows[j] = x := ⟨_, rfl⟩
      rw [hx] at e0 e1 hT
      have k0 : wr.cell? ⟨g, 0, none⟩ = some (.int .i64 k.acc) := HK2.out.cell 0
      have k1 : wr.cell? ⟨g, 1, none⟩ = some (.int .i64 k.ast) := HK2.out.cell 1
      have HX := Lib.hid hx
      have HT := Lib.hid hT
      clear hx hT
      by_cases he : x.key = k
      · have HE := Lib.hid he
        rw [he] at e0 e1
        clear he
        go_wp2_with (fail)
        go_quiet (fail)
        go_wp2
        go_ret
        exact ⟨_, rfl, .inr ⟨j, hlt, rfl, by rw [HX.out]; exact HE.out⟩, HB.out.trans (by rw [HWR.out]; exact below_drewN (below_drewN (Below.refl _ _) _) _)⟩
      · have HE := Lib.hid he
        rcases keyNe he with h1 | ⟨h1, h2⟩
        · clear he
          go_wp2_with (fail)
          go_quiet (fail)
          go_wp2
          go_roundw
          case rel =>
            refine ⟨j + 1, by omega, by go_num, fun z hz => ?_, n + nq, by rw [HWR.out]; simp [World.drewN, Nat.add_assoc]⟩
            rw [HT.out] at hz
            rcases List.mem_append.1 hz with h | h
            · exact HN.out z h
            · rw [List.mem_singleton.1 h]; exact HE.out
          case measure => simp [intOf]; omega
        · clear he
          rw [h1] at e0
          go_wp2_with (fail)
          go_quiet (fail)
          go_wp2
          go_roundw
          case rel =>
            refine ⟨j + 1, by omega, by go_num, fun z hz => ?_, n + nq, by rw [HWR.out]; simp [World.drewN, Nat.add_assoc]⟩
            rw [HT.out] at hz
            rcases List.mem_append.1 hz with h | h
            · exact HN.out z h
            · rw [List.mem_singleton.1 h]; exact HE.out
          case measure => simp [intOf]; omega
    · obtain rfl : j = r.rows.length := by omega
      have hn := HN.out
      rw [List.take_length] at hn
      have HN2 := Lib.hid hn
      clear hn
      go_wp2
      go_ret
      exact ⟨_, rfl, .inl ⟨rfl, HN2.out⟩, HB.out.trans (by rw [HWR.out]; exact below_drewN (Below.refl _ _) _)⟩
theorem getR_none {rows : List RRow} {k : Key} (h : ∀ x ∈ rows, x.key ≠ k) : mget (rows.map (fun x => (x.key, x.L))) k = none := mget_none (fun p hp => by obtain ⟨x, hx, rfl⟩ := List.mem_map.1 hp; exact h x hx)
theorem getR_at {rows : List RRow} {k : Key} {j : Nat} (hn : (rows.map (·.key)).Nodup) (hj : j < rows.length) (hk : rows[j].key = k) : mget (rows.map (fun x => (x.key, x.L))) k = some rows[j].L :=
  mget_of_mem (by rw [List.map_map]; exact hn) (List.mem_map.2 ⟨rows[j], List.getElem_mem hj, by rw [hk]⟩)
def RowP (w : World) (r : RS) (k : Key) (e : Ending) (w' : World) : Prop := ∃ A c, e = .returned (.slice A (getR r.rowsA k).length c) ∧ RowR w' (.slice A (getR r.rowsA k).length c) (getR r.rowsA k) ∧ UpV (getR r.rowsA k) ∧ MaxV (getR r.rowsA k) ∧ Below w.heap.size w w'
set_option maxRecDepth 100000 in
set_option maxHeartbeats 2000000 in
theorem rrow_calls (r : RS) (k : Key) (w : World) (h : RSAt w r) (hl : r.rows.length ≤ 4611686018427387904) :
    Calls Tryz.prog 73 #[.pointer (some ⟨r.p, 0, none⟩), .agg #[.int .i64 k.acc, .int .i64 k.ast]] w (RowP w r k) := by
  obtain ⟨A, c, hv⟩ := row_slice h.row
  have hb : Below w.heap.size w (w.alloc (.cells #[.int .i64 k.acc, .int .i64 k.ast] 33)) := (Below.refl _ _).alloc (Nat.le_refl _) _
  have hf := rfind_calls r k _ (h.below hb) hl
  have HF := Lib.hid hf
  have H := Lib.hid h
  have HV := Lib.hid hv
  have HB := Lib.hid hb
  clear h hv hb hf
  go_enter Tryz.func73, Tryz.ntmps73
  go_wp2_with (fail)
  refine HF.out.mono ?_
  rintro e w2 ⟨z, rfl, hz, hb2⟩
  have hB2 := HB.out.trans (hb2.mono HB.out.size)
  have H2 := Lib.hid (H.out.below hB2)
  have HB2 := Lib.hid hB2
  clear hb2 hB2
  rcases hz with ⟨rfl, hno⟩ | ⟨j, hj, rfl, hk⟩
  · have hg : getR r.rowsA k = [] := by unfold getR RS.rowsA; rw [getR_none hno]; rfl
    have HGR := Lib.hid hg
    clear hno hg
    go_wp2
    go_ret
    exact ⟨none, 0, by rw [HGR.out]; rfl, by rw [HGR.out]; exact World.ownsRow_nil _ _ _ _, by rw [HGR.out]; exact UpV.nil, (by rw [HGR.out]; exact fun x hx => by cases hx), HB2.out⟩
  · have hg : getR r.rowsA k = r.rows[j].L := by unfold getR RS.rowsA; rw [getR_at H.out.kn hj hk]; rfl
    have c1 : w2.cell? ⟨r.p, 1, none⟩ = some (.slice A r.rows.length c) := by rw [H2.out.blk.cell 1, HV.out]; rfl
    obtain ⟨gr, rfl, _, _, e2⟩ := H2.out.at_ HV.out hj
    have hjl : (j : Int) < r.rows.length := by omega
    have HGR := Lib.hid hg
    have HM := Lib.hid (List.getElem_mem hj)
    clear hk hg
    go_wp2
    go_ret
    exact ⟨r.rows[j].A, r.rows[j].c, by rw [HGR.out]; rfl, by rw [HGR.out]; exact H2.out.vs _ HM.out, by rw [HGR.out]; exact H2.out.up _ HM.out, by rw [HGR.out]; exact H2.out.mx _ HM.out, HB2.out⟩
set_option maxRecDepth 100000 in
set_option maxHeartbeats 1000000 in
theorem rnew_calls (x : Int) (w : World) : Calls Tryz.prog 7 #[.int .i64 x] w
    fun e w' => ∃ p, e = .returned (.pointer (some ⟨p, 0, none⟩)) ∧ RSAt w' ⟨p, cntS x, .slice none 0 0, [], .slice none 0 0, []⟩ ∧ Below w.heap.size w w' ∧ w.heap.size ≤ p := by
  have hm : ∀ n : Int, RSAt (w.alloc (.cells #[.int .i64 n, .slice none 0 0, .slice none 0 0] 48)) ⟨w.heap.size, n, .slice none 0 0, [], .slice none 0 0, []⟩ := fun n =>
    ⟨Blk.new w _ _, World.ownsRow_nil _ _ _ _, (fun x hx => by cases hx), World.ownsRow_nil _ _ _ _, (fun x hx => by cases hx), (fun x hx => by cases hx), by simp⟩
  have HM := Lib.hid (hm (cntS x))
  clear hm
  go_enter Tryz.func7, Tryz.ntmps7
  go_wp2_with (fail)
  refine (rcounts_calls x w).mono ?_
  rintro e w' ⟨rfl, rfl⟩
  go_wp2
  go_ret
  exact ⟨_, rfl, HM.out, (Below.refl _ _).alloc (Nat.le_refl _) _, Nat.le_refl _⟩
end Go.Proofs.YtflkddllofeiaaaGreatDoor

/- The document's store in memory: set, Put, Prune. -/
namespace Go.Proofs.YtflkddllofeiaaaGreatDoor
open Go.RowKit Go.MapKept Go.ChangeMaps Go.Maps

/-- Behind a set. -/
structure SetQ (w w' : World) (r r' : RS) (k : Key) (v : Value) (L : List VerS) : Prop where
  at_ : RSAt w' r'
  rows : r'.rowsA = mput r.rowsA k L
  p : r'.p = r.p
  sh : r'.sh = r.sh
  rds : r'.rds = r.rds
  but : But w w' r.of
  new : ∀ i, r'.of i → r.of i ∨ v.ownBlock = some i ∨ w.heap.size ≤ i
theorem rows_set {rows : List RRow} (hn : (rows.map (·.key)).Nodup) {j : Nat} (hj : j < rows.length) (y : RRow) (hk : rows[j].key = y.key) : (rows.set j y).map (fun x => (x.key, x.L)) = mput (rows.map (fun x => (x.key, x.L))) y.key y.L := by
  have hs : (mget (rows.map (fun x => (x.key, x.L))) y.key).isSome = true := by rw [getR_at hn hj hk]; rfl
  unfold mput
  rw [if_pos hs, List.map_map]
  refine List.ext_getElem (by simp) (fun i h1 h2 => ?_)
  simp only [List.length_map, List.length_set] at h1
  simp only [List.getElem_map, List.getElem_set, Function.comp]
  by_cases e : j = i
  · subst e
    rw [if_pos rfl, if_pos hk]
  · rw [if_neg e, if_neg (fun h => e ?_)]
    have h5 : (rows.map (·.key))[j]'(by simpa using hj) = (rows.map (·.key))[i]'(by simpa using h1) := by simp [hk, h]
    exact (List.getElem_inj hn).1 h5
theorem rows_add {rows : List RRow} {k : Key} (h : ∀ x ∈ rows, x.key ≠ k) (y : RRow) (hk : y.key = k) : (rows ++ [y]).map (fun x => (x.key, x.L)) = mput (rows.map (fun x => (x.key, x.L))) k y.L := by
  rw [mput_none (fun p hp => by obtain ⟨x, hx, rfl⟩ := List.mem_map.1 hp; exact h x hx), List.map_append, ← hk]
  rfl
section
variable {w w2 w3 : World} {r : RS} {k : Key} {VA : Option Addr} {vc : Nat} {L : List VerS}
theorem set_found (h : RSAt w2 r) {g c : Nat} (hv : r.rv = .slice (some ⟨g, 0, none⟩) r.rows.length c) {j : Nat} (hj : j < r.rows.length) (hk : r.rows[j].key = k) (hV : RowR w2 (.slice VA L.length vc) L) (hu : UpV L) (hm : MaxV L) (hb : Below w.heap.size w w2) :
    SetQ w (w2.setCell ⟨g, j * 3 + 2, none⟩ (.slice VA L.length vc)) r { r with rows := r.rows.set j ⟨k, VA, vc, L⟩ } k (.slice VA L.length vc) L := by
  have hrow := h.row
  rw [hv] at hrow
  have hbt : But w2 (w2.setCell ⟨g, j * 3 + 2, none⟩ (.slice VA L.length vc)) (fun i => i = g) := (But.refl w2 (fun i => i = g)).setCell (p := ⟨g, j * 3 + 2, none⟩) (fun _ => rfl) _
  have hmem : ∀ x ∈ r.rows.set j ⟨k, VA, vc, L⟩, x ∈ r.rows ∨ x = ⟨k, VA, vc, L⟩ := fun x hx => List.mem_or_eq_of_mem_set hx
  have hnv : ∀ {v : Value} {l : List VerS}, RowR w2 v l → ∀ b, v.ownBlock = some b → ¬ b = g := fun hr b hb e => own_own_ne hr hrow (by decide) hb (by rw [e]; rfl)
  refine ⟨⟨h.blk.but hbt (fun e => own_blk_ne hrow h.blk (by decide) (by rw [e]; rfl)), ?_, fun x hx => ?_, own_but h.rd hbt (fun b hb e => own_own_ne h.rd hrow (by decide) hb (by rw [e]; rfl)), fun x hx => ?_, fun x hx => ?_, ?_⟩, rows_set h.kn hj ⟨k, VA, vc, L⟩ hk, rfl, rfl, rfl, ?_, fun i hi => ?_⟩
  · simp only [List.length_set]
    rw [hv]
    exact row_set RRow.len hrow hj (r := 2) _ ⟨k, VA, vc, L⟩ (by decide) (by unfold RRow.cs; rw [hk]; rfl)
  · rcases hmem x hx with h1 | rfl
    · exact rowR_but (h.vs x h1) hbt (hnv (h.vs x h1))
    · exact rowR_but hV hbt (hnv hV)
  · rcases hmem x hx with h1 | rfl
    · exact h.up x h1
    · exact hu
  · rcases hmem x hx with h1 | rfl
    · exact h.mx x h1
    · exact hm
  · have e : (r.rows.set j ⟨k, VA, vc, L⟩).map (·.key) = r.rows.map (·.key) := by
      refine List.ext_getElem (by simp) (fun i h1 h2 => ?_)
      simp only [List.getElem_map, List.getElem_set]
      split
      · rename_i e; subst e; exact hk.symm
      · rfl
    rw [e]
    exact h.kn
  · exact (But.of_below hb _).trans hbt (fun i _ e => .inr (.inl (by rw [hv, e]; rfl)))
  · rcases hi with h1 | h1 | h1 | ⟨x, hx, h1⟩
    · exact .inl (.inl h1)
    · exact .inl (.inr (.inl h1))
    · exact .inl (.inr (.inr (.inl h1)))
    · rcases hmem x hx with h2 | rfl
      · exact .inl (.inr (.inr (.inr ⟨x, h2, h1⟩)))
      · exact .inr (.inl h1)
theorem set_new {o : Obj} {rv' : Value} (h : RSAt w2 r) (hno : ∀ x ∈ r.rows, x.key ≠ k) (hV : RowR w2 (.slice VA L.length vc) L) (hu : UpV L) (hm : MaxV L) (hb : Below w.heap.size w w2)
    (hO : w3.ownsRow 0 77 3 rv' (r.rows.length + 1) (r.rows.flatMap RRow.cs ++ [.int .i64 k.acc, .int .i64 k.ast, .slice VA L.length vc])) (hg : (w2.alloc o).grownBy w3 r.rv.ownBlock) (hat : rv'.ownBlock = r.rv.ownBlock ∨ rv'.ownBlock = some (w2.alloc o).heap.size) :
    SetQ w (w3.setCell ⟨r.p, 1, none⟩ rv') r { r with rv := rv', rows := r.rows ++ [⟨k, VA, vc, L⟩] } k (.slice VA L.length vc) L := by
  have hb3 : But w2 w3 (fun i => r.rv.ownBlock = some i) := ((But.refl w2 _).alloc o).grown hg (fun i _ e => e)
  have b3 := h.blk.but hb3 (own_blk_ne h.row h.blk (by decide))
  have hbp : But w3 (w3.setCell ⟨r.p, 1, none⟩ rv') (fun i => i = r.p) := (But.refl w3 (fun i => i = r.p)).setCell (p := ⟨r.p, 1, none⟩) (fun _ => rfl) rv'
  have hmem : ∀ x ∈ r.rows ++ [⟨k, VA, vc, L⟩], x ∈ r.rows ∨ x = ⟨k, VA, vc, L⟩ := fun x hx => (List.mem_append.1 hx).imp (fun h => h) List.mem_singleton.1
  have hv : ∀ {v : Value} {l : List VerS}, RowR w2 v l → RowR (w3.setCell ⟨r.p, 1, none⟩ rv') v l := fun hr => by
    have h3 := rowR_but hr hb3 (fun b hb' q => own_own_ne hr h.row (by decide) hb' q)
    exact rowR_but h3 hbp (fun b hb' q => own_blk_ne h3 b3 (by decide) (q ▸ hb'))
  refine ⟨⟨b3.set_ 1 rv', ?_, fun x hx => ?_, ?_, fun x hx => ?_, fun x hx => ?_, ?_⟩, rows_add hno _ rfl, rfl, rfl, rfl, ?_, fun i hi => ?_⟩
  · rw [List.length_append, List.flatMap_append]
    exact own_but hO hbp (fun b hb' q => own_blk_ne hO b3 (by decide) (q ▸ hb'))
  · rcases hmem x hx with h1 | rfl
    · exact hv (h.vs x h1)
    · exact hv hV
  · have h3 := own_but h.rd hb3 (fun b hb' q => own_own_ne h.rd h.row (by decide) hb' q)
    exact own_but h3 hbp (fun b hb' q => own_blk_ne h3 b3 (by decide) (q ▸ hb'))
  · rcases hmem x hx with h1 | rfl
    · exact h.up x h1
    · exact hu
  · rcases hmem x hx with h1 | rfl
    · exact h.mx x h1
    · exact hm
  · show ((r.rows ++ ([⟨k, VA, vc, L⟩] : List RRow)).map (·.key)).Nodup
    rw [List.map_append, List.nodup_append]
    refine ⟨h.kn, by simp, fun y hy z hz e => ?_⟩
    obtain ⟨x, hx, rfl⟩ := List.mem_map.1 hy
    simp only [List.map_cons, List.map_nil, List.mem_singleton] at hz
    exact hno x hx (e.trans hz)
  · exact ((But.of_below hb _).trans hb3 (fun i _ e => .inr (.inl e))).trans hbp (fun i _ e => .inl e)
  · rcases hi with h1 | h1 | h1 | ⟨x, hx, h1⟩
    · exact .inl (.inl h1)
    · rcases hat with h2 | h2
      · exact .inl (.inr (.inl (h2 ▸ h1)))
      · have h1' : rv'.ownBlock = some i := h1
        rw [h2] at h1'
        cases h1'
        exact .inr (.inr (by have := hb.size; simp; omega))
    · exact .inl (.inr (.inr (.inl h1)))
    · rcases hmem x hx with h2 | rfl
      · exact .inl (.inr (.inr (.inr ⟨x, h2, h1⟩)))
      · exact .inr (.inl h1)
end
set_option maxRecDepth 100000 in
set_option maxHeartbeats 4000000 in
theorem rset_calls (r : RS) (k : Key) (VA : Option Addr) (vc : Nat) (L : List VerS) (w : World) (h : RSAt w r) (hV : RowR w (.slice VA L.length vc) L) (hu : UpV L) (hm : MaxV L) (hl : r.rows.length < 3518437208800) :
    Calls Tryz.prog 74 #[.pointer (some ⟨r.p, 0, none⟩), .agg #[.int .i64 k.acc, .int .i64 k.ast], .slice VA L.length vc] w fun e w' => ∃ r', e = .returned (.tuple #[]) ∧ SetQ w w' r r' k (.slice VA L.length vc) L := by
  obtain ⟨i0, hi0, hz0, hz1, hz2⟩ := info_parts infoRRow
  obtain ⟨A, c, hv⟩ := row_slice h.row
  have hb : Below w.heap.size w (w.alloc (.cells #[.int .i64 k.acc, .int .i64 k.ast] 33)) := (Below.refl _ _).alloc (Nat.le_refl _) _
  have hk0 := Blk.new w 33 #[.int .i64 k.acc, .int .i64 k.ast]
  obtain ⟨g, hg⟩ : ∃ g, w.heap.size = g := ⟨_, rfl⟩
  rw [hg] at hk0
  have hf := rfind_calls r k _ (h.below hb) (by omega)
  have HF := Lib.hid hf
  have H := Lib.hid h
  have HV := Lib.hid hv
  have HB := Lib.hid hb
  have HK := Lib.hid hk0
  have HVV := Lib.hid hV
  have HG0 := Lib.hid hg
  clear h hv hb hf hk0 hV hg
  go_enter Tryz.func74, Tryz.ntmps74
  go_wp2_with (fail)
  refine HF.out.mono ?_
  rintro e w2 ⟨z, rfl, hz, hb2⟩
  have hB2 := HB.out.trans (hb2.mono HB.out.size)
  have hkk := HK.out.below hb2 HK.out.lt
  have H2 := Lib.hid (H.out.below hB2)
  have HB2 := Lib.hid hB2
  have HV2 := Lib.hid (rowR_but HVV.out (But.of_below hB2 (fun _ => False)) (fun _ _ h => h))
  rw [HG0.out]
  have c1 : w2.cell? ⟨r.p, 1, none⟩ = some (.slice A r.rows.length c) := by rw [H2.out.blk.cell 1, HV.out]; rfl
  rcases hz with ⟨rfl, hno⟩ | ⟨j, hj, rfl, hk⟩
  · have z1 : w2.frozen? ⟨r.p, 1, none⟩ = false := H2.out.blk.frozen 1
    have k0 : w2.cell? ⟨g, 0, none⟩ = some (.int .i64 k.acc) := hkk.cell 0
    have k1 : w2.cell? ⟨g, 1, none⟩ = some (.int .i64 k.ast) := hkk.cell 1
    have hrow := H2.out.row
    rw [HV.out] at hrow
    have HROW := Lib.hid hrow
    have d2 : (w2.alloc (.cells #[.int .i64 k.acc, .int .i64 k.ast, .slice VA L.length vc] 77)).cell? ⟨r.p, 1, none⟩ = some (.slice A r.rows.length c) := by rw [(H2.out.blk.alloc _).cell 1, HV.out]; rfl
    have HNO := Lib.hid hno
    have HB4 := Lib.hid (fun (o : Obj) (w4 : World) (hg : ((w2.drew).alloc o).grownBy w4 (Value.slice A r.rows.length c).ownBlock) => Blk.but (S := fun i => (Value.slice A r.rows.length c).ownBlock = some i) (show Blk w2.drew r.p _ _ from H2.out.blk) (((But.refl w2.drew _).alloc o).grown hg (fun i _ e => e)) (own_blk_ne HROW.out H2.out.blk (by decide)))
    clear hb2 hB2 hkk hno hrow
    go_wp2_with (fail)
    go_region_law (refine step_append_lies _ (by rfl) (.tmp 16) (.tmp 20) 45 (by rfl) 0 77 i0 _ 3 40 Tryz.underlying45 hi0 hz0 hz1 hz2 rfl (by decide) (.slice A r.rows.length c) r.rows.length (r.rows.flatMap RRow.cs) (by rfl) (HROW.out.alloc _) ⟨w2.heap.size, 0, none⟩ 1 1 [.int .i64 k.acc, .int .i64 k.ast, .slice VA L.length vc] (by rfl) (by rfl) ?_ (by simp [Value.oneCell']) (by decide) (by unfold maxLen; omega) (by omega) (Nat.zero_le _) (w2.heap.size + 1) (by simp) ?_; exact new_cells w2.drew 77 [.int .i64 k.acc, .int .i64 k.ast, .slice VA L.length vc]; intro BA bc w4 hown1 hg1 hat1 hlt1; have hpp := set_new (w := w) (k := k) (w2 := w2.drew) (H2.out.below (Below.refl _ _).drew) HNO.out (show RowR w2.drew _ _ from HV2.out) hu hm (HB2.out.drew) hown1 (by rw [HV.out]; exact hg1) (by rw [HV.out]; exact hat1.elim (fun h => .inl h.symm) (fun h => .inr (congrArg some (h.trans (by simp))))); have HPP := Lib.hid hpp; have hb4 := HB4.out _ w4 hg1; have q1 : w4.cell? ⟨r.p, 1, none⟩ = some (.slice A r.rows.length c) := (by rw [hb4.cell 1, HV.out]; rfl); have y1 : w4.frozen? ⟨r.p, 1, none⟩ = false := hb4.frozen 1; clear hpp hb4 hown1 hg1 hat1 hlt1)
    all_goals (go_wp2_with (fail))
    all_goals exact bodyPost_ret (v := .tuple #[]) (by simp [results, Tryz.results74, go_sem]) rfl ⟨_, rfl, HPP.out⟩
  · obtain ⟨gr, rfl, _, _, e2⟩ := H2.out.at_ HV.out hj
    have hjl : (j : Int) < r.rows.length := by omega
    have hrow := H2.out.row
    rw [HV.out] at hrow
    have f2 : w2.frozen? ⟨gr, j * 3 + 2, none⟩ = false := row_frozen hrow _
    have hS := set_found (w := w) H2.out HV.out hj hk HV2.out hu hm HB2.out
    have HS := Lib.hid hS
    clear hb2 hB2 hkk hrow hS hk
    go_wp2_with (fail)
    go_end0
    exact ⟨_, rfl, HS.out⟩
/-- What a call of the document's store leaves. -/
structure TurnR (w w' : World) (r r' : RS) : Prop where
  at_ : RSAt w' r'
  p : r'.p = r.p
  sh : r'.sh = r.sh
  but : But w w' r.of
  new : ∀ i, r'.of i → r.of i ∨ w.heap.size ≤ i
theorem TurnR.below {w w' : World} {r : RS} (h : RSAt w r) (hb : Below w.heap.size w w') : TurnR w w' r r := ⟨h.below hb, rfl, rfl, But.of_below hb _, fun _ h => .inl h⟩
theorem SetQ.turn {w w2 w' : World} {r r' : RS} {k : Key} {v : Value} {L : List VerS} (hb : Below w.heap.size w w2) (h : SetQ w2 w' r r' k v L) (hv : ∀ b, v.ownBlock = some b → w.heap.size ≤ b) : TurnR w w' r r' :=
  ⟨h.at_, h.p, h.sh, (But.of_below hb _).trans h.but (fun _ _ h => h), fun i hi => (h.new i hi).imp (fun h => h) (fun h => h.elim (hv i) (Nat.le_trans hb.size))⟩
theorem putL_max {L : List VerS} {n : Int} {v : ByteArray} (h : MaxV L) (hn : n ≤ 9223372036854775807) : MaxV (putL L ⟨n, v⟩) := by
  unfold putL
  split
  · intro x hx
    rcases List.mem_append.1 hx with hx | hx
    · exact h x hx
    · rw [List.mem_singleton.1 hx]; exact hn
  · exact h
theorem pruneL_max {L : List VerS} {n : Int} (h : MaxV L) : MaxV (pruneL L n) := by
  unfold pruneL
  split
  · exact h
  · exact fun x hx => h x (List.mem_of_mem_drop hx)
def RPutQ (w : World) (r : RS) (k : Key) (n : Int) (v : ByteArray) (e : Ending) (w' : World) : Prop := ∃ r', e = .returned (.int .i64 (putE (getR r.rowsA k) n)) ∧ TurnR w w' r r' ∧ r'.rowsA = putR r.rowsA k n v ∧ r'.rds = r.rds
set_option maxRecDepth 100000 in
set_option maxHeartbeats 4000000 in
theorem rputS_calls (r : RS) (k : Key) (n : Int) (v : ByteArray) (w : World) (h : RSAt w r) (hn : n ≤ 9223372036854775807) (hl : r.rows.length < 3518437208800) (hll : (getR r.rowsA k).length < 9382499223000) :
    Calls Tryz.prog 36 #[.pointer (some ⟨r.p, 0, none⟩), .agg #[.int .i64 k.acc, .int .i64 k.ast], .int .i64 n, .string v] w (RPutQ w r k n v) := by
  have hb : Below w.heap.size w (w.alloc (.cells #[.int .i64 k.acc, .int .i64 k.ast] 33)) := (Below.refl _ _).alloc (Nat.le_refl _) _
  obtain ⟨g, hg⟩ : ∃ g, w.heap.size = g := ⟨_, rfl⟩
  have hk0 := Blk.new w 33 #[.int .i64 k.acc, .int .i64 k.ast]
  rw [hg] at hk0
  have hf := rrow_calls r k _ (h.below hb) (by omega)
  have HF := Lib.hid hf
  have H := Lib.hid h
  have HB := Lib.hid hb
  have HK := Lib.hid hk0
  have HG0 := Lib.hid hg
  clear h hb hf hk0 hg
  go_enter Tryz.func36, Tryz.ntmps36
  go_wp2_with (fail)
  refine HF.out.mono ?_
  rintro e w2 ⟨A, c, rfl, hR, hu, hm, hb2⟩
  have HB2 := Lib.hid (HB.out.trans (hb2.mono HB.out.size))
  have HK2 := Lib.hid (HK.out.below hb2 HK.out.lt)
  have hp := rput2_calls (getR r.rowsA k) hu _ n v w2 hR hll
  have HP := Lib.hid hp
  have HU := Lib.hid hu
  have HM := Lib.hid hm
  rw [HG0.out]
  clear hb2 hp hu hm hR
  go_wp2_with (fail)
  refine HP.out.mono ?_
  rintro e w3 ⟨v', rfl, hR3, hb3, hnew⟩
  have HB3 := Lib.hid (HB2.out.trans (hb3.mono HB2.out.size))
  have hk3 := HK2.out.below hb3 HK2.out.lt
  have k0 : w3.cell? ⟨g, 0, none⟩ = some (.int .i64 k.acc) := hk3.cell 0
  have k1 : w3.cell? ⟨g, 1, none⟩ = some (.int .i64 k.ast) := hk3.cell 1
  have H3 := Lib.hid (H.out.below HB3.out)
  obtain ⟨VA, vc, rfl⟩ := own_slice hR3
  by_cases hmp : mayPut (getR r.rowsA k) n = true
  · have e1 : putE (getR r.rowsA k) n = 0 := by unfold putE; rw [if_pos hmp]
    have e2 : putR r.rowsA k n v = mput r.rowsA k (putL (getR r.rowsA k) ⟨n, v⟩) := by unfold putR putL; rw [if_pos hmp, if_pos hmp]
    have hs := rset_calls r k VA vc _ w3 H3.out hR3 (HU.out.put _) (putL_max HM.out hn) hl
    have HS := Lib.hid hs
    have HN := Lib.hid (hnew e1)
    have E1 := Lib.hid e1
    have E2 := Lib.hid e2
    rw [e1]
    clear hs hnew e1 e2 hb3 hk3 hR3 hmp
    go_wp2_with (fail)
    refine HS.out.mono ?_
    rintro e w4 ⟨r', rfl, hq⟩
    have HQ := Lib.hid hq
    clear hq
    go_wp2
    go_ret
    exact ⟨r', by rw [E1.out]; rfl, HQ.out.turn HB3.out (fun b hb => Nat.le_trans HB2.out.size (HN.out b hb)), by rw [E2.out]; exact HQ.out.rows, HQ.out.rds⟩
  · have e1 : putE (getR r.rowsA k) n = 1 := by unfold putE; rw [if_neg hmp]
    have e2 : putR r.rowsA k n v = r.rowsA := by unfold putR; rw [if_neg hmp]
    have E1 := Lib.hid e1
    have E2 := Lib.hid e2
    rw [e1]
    clear hnew e1 e2 hb3 hk3 hR3 hmp k0 k1
    go_wp2
    go_ret
    exact ⟨r, by rw [E1.out]; rfl, TurnR.below H.out HB3.out, by rw [E2.out], rfl⟩
end Go.Proofs.YtflkddllofeiaaaGreatDoor

/- The document's store in memory: At, Last, Versions; readers; Prune. -/
namespace Go.Proofs.YtflkddllofeiaaaGreatDoor
open Go.RowKit Go.MapKept Go.ChangeMaps Go.Maps

section
variable {w w' : World} {r : RS}
theorem rowR_reads {A : Option Addr} {c : Nat} {L : List VerS} (h : RowR w (.slice A L.length c) L) : Reads w w.heap.size 2 A L.length (versC L) := Reads.of_own h
end
set_option maxRecDepth 100000 in
set_option maxHeartbeats 2000000 in
theorem ratS_calls (r : RS) (k : Key) (n : Int) (w : World) (h : RSAt w r) (hl : r.rows.length ≤ 4611686018427387904) (hll : (getR r.rowsA k).length ≤ 9382499223000) :
    Calls Tryz.prog 37 #[.pointer (some ⟨r.p, 0, none⟩), .agg #[.int .i64 k.acc, .int .i64 k.ast], .int .i64 n] w fun e w' => e = .returned (.tuple #[.string (atV (getR r.rowsA k) n), .bool (decide (0 < leN (getR r.rowsA k) n))]) ∧ Below w.heap.size w w' := by
  have hb : Below w.heap.size w (w.alloc (.cells #[.int .i64 k.acc, .int .i64 k.ast] 33)) := (Below.refl _ _).alloc (Nat.le_refl _) _
  have hf := rrow_calls r k _ (h.below hb) (by omega)
  have HF := Lib.hid hf
  have HB := Lib.hid hb
  clear h hb hf
  go_enter Tryz.func37, Tryz.ntmps37
  go_wp2_with (fail)
  refine HF.out.mono ?_
  rintro e w2 ⟨A, c, rfl, hR, hu, hm, hb2⟩
  have HB2 := Lib.hid (HB.out.trans (hb2.mono HB.out.size))
  have HP := Lib.hid (rat_calls (getR r.rowsA k) hu A c n w2 (rowR_reads hR) hll)
  obtain ⟨L, hL⟩ : ∃ L, getR r.rowsA k = L := ⟨_, rfl⟩
  rw [hL] at HP
  rw [hL]
  have HL := Lib.hid hL
  clear hb2 hu hm hR hL hll HF
  go_wp2_with (fail)
  refine HP.out.mono ?_
  rintro e w3 ⟨rfl, hb3⟩
  have HB3 := Lib.hid (HB2.out.trans (hb3.mono HB2.out.size))
  clear hb3
  go_wp2
  go_ret2
  exact ⟨by rw [HL.out]; rfl, HB3.out⟩
set_option maxRecDepth 100000 in
set_option maxHeartbeats 2000000 in
theorem rlastS_calls (r : RS) (k : Key) (w : World) (h : RSAt w r) (hl : r.rows.length ≤ 4611686018427387904) (hll : (getR r.rowsA k).length ≤ 9382499223000) :
    Calls Tryz.prog 38 #[.pointer (some ⟨r.p, 0, none⟩), .agg #[.int .i64 k.acc, .int .i64 k.ast]] w fun e w' => e = .returned (.tuple #[.string (lastV (getR r.rowsA k)), .int .i64 (lastM (getR r.rowsA k)), .bool (decide (0 < (getR r.rowsA k).length))]) ∧ Below w.heap.size w w' := by
  have hb : Below w.heap.size w (w.alloc (.cells #[.int .i64 k.acc, .int .i64 k.ast] 33)) := (Below.refl _ _).alloc (Nat.le_refl _) _
  have hf := rrow_calls r k _ (h.below hb) (by omega)
  have HF := Lib.hid hf
  have HB := Lib.hid hb
  clear h hb hf
  go_enter Tryz.func38, Tryz.ntmps38
  go_wp2_with (fail)
  refine HF.out.mono ?_
  rintro e w2 ⟨A, c, rfl, hR, hu, hm, hb2⟩
  have HB2 := Lib.hid (HB.out.trans (hb2.mono HB.out.size))
  have HP := Lib.hid (rlast_calls (getR r.rowsA k) hu hm A c w2 (rowR_reads hR) hll)
  obtain ⟨L, hL⟩ : ∃ L, getR r.rowsA k = L := ⟨_, rfl⟩
  rw [hL] at HP
  rw [hL]
  have HL := Lib.hid hL
  clear hb2 hu hm hR hL hll HF
  go_wp2_with (fail)
  refine HP.out.mono ?_
  rintro e w3 ⟨rfl, hb3⟩
  have HB3 := Lib.hid (HB2.out.trans (hb3.mono HB2.out.size))
  clear hb3
  go_wp2
  go_ret3
  exact ⟨by rw [HL.out]; rfl, HB3.out⟩
theorem total_take {M : List (Key × List VerS)} {k : Nat} (hk : k < M.length) : total (M.take (k + 1)) = total (M.take k) + M[k].2.length := by
  rw [List.take_succ_eq_append_getElem hk]
  unfold total
  rw [List.map_append, List.sum_append]
  simp
theorem total_take_le (M : List (Key × List VerS)) (k : Nat) : total (M.take k) ≤ total M := by
  have h : M.take k ++ M.drop k = M := List.take_append_drop k M
  have h2 : total M = total (M.take k) + total (M.drop k) := by
    conv => lhs; rw [← h]
    unfold total
    rw [List.map_append, List.sum_append]
  omega
set_option maxRecDepth 100000 in
set_option maxHeartbeats 2000000 in
theorem rversions_calls (r : RS) (w : World) (h : RSAt w r) (ht : total r.rowsA ≤ 4611686018427387904) (hl : r.rows.length ≤ 4611686018427387904) :
    Calls Tryz.prog 17 #[.pointer (some ⟨r.p, 0, none⟩)] w fun e w' => e = .returned (.int .i64 (total r.rowsA)) ∧ w' = w := by
  obtain ⟨A, c, hv⟩ := row_slice h.row
  have c1 : w.cell? ⟨r.p, 1, none⟩ = some (.slice A r.rows.length c) := by rw [h.blk.cell 1, hv]; rfl
  have H := Lib.hid h
  have HV := Lib.hid hv
  have HT := Lib.hid ht
  clear h hv ht
  go_enter Tryz.func17, Tryz.ntmps17
  go_wp2_with (fail)
  go_loopw [3, 4] (fun t i wr => ∃ k : Nat, k ≤ r.rows.length ∧ i = .int .i64 k ∧ t = .int .i64 (total (r.rowsA.take k) : Nat) ∧ wr = w) (fun _ i _ => r.rows.length - (intOf i).toNat)
  case atStart => exact ⟨0, Nat.zero_le _, rfl, rfl, rfl⟩
  case round =>
    obtain ⟨k, hk, rfl, rfl, hwr⟩ := hrel
    subst hwr
    by_cases hlt : k < r.rows.length
    · have hkl : (k : Int) < r.rows.length := by omega
      obtain ⟨g, rfl, _, _, e2⟩ := H.out.at_ HV.out hlt
      have hrl : r.rowsA.length = r.rows.length := by unfold RS.rowsA; simp
      have hs := total_take (M := r.rowsA) (k := k) (by omega)
      have hx : (r.rowsA[k]'(by omega)).2.length = r.rows[k].L.length := by unfold RS.rowsA; simp
      rw [hx] at hs
      have hle := total_take_le r.rowsA (k + 1)
      have hT := HT.out
      obtain ⟨n1, hn1⟩ : ∃ n, total (r.rowsA.take k) = n := ⟨_, rfl⟩
      obtain ⟨n2, hn2⟩ : ∃ n, r.rows[k].L.length = n := ⟨_, rfl⟩
      rw [hn1, hn2] at hs
      rw [hn2] at e2
      rw [hn1]
      have hsum : n1 + n2 ≤ 4611686018427387904 := by omega
      have HS := Lib.hid hs
      clear hs hx hle hT hn1 hn2 hrl
      go_wp2_with (fail)
      go_roundw
      case rel => exact ⟨k + 1, by omega, by go_num, by rw [HS.out]; go_num, by first | rfl | trivial⟩
      case measure => simp [intOf]; omega
    · obtain rfl : k = r.rows.length := by omega
      have hrl : r.rowsA.length = r.rows.length := by unfold RS.rowsA; simp
      have ht : r.rowsA.take r.rows.length = r.rowsA := by rw [← hrl, List.take_length]
      have HTT := Lib.hid ht
      clear ht hrl
      go_wp2
      go_ret
      exact ⟨by rw [HTT.out]; rfl, rfl⟩
/-- The readers that have not ended, each with its number. -/
def openR : Nat → List (Int × Bool) → List (Int × Int)
  | _, [] => []
  | i, x :: l => (if x.2 then [] else [((i : Int) + 1, x.1)]) ++ openR (i + 1) l
theorem openR_app : ∀ (i : Nat) (l m : List (Int × Bool)), openR i (l ++ m) = openR i l ++ openR (i + l.length) m
  | i, [], m => rfl
  | i, x :: l, m => by
    show (if x.2 then [] else [((i : Int) + 1, x.1)]) ++ openR (i + 1) (l ++ m) = ((if x.2 then [] else [((i : Int) + 1, x.1)]) ++ openR (i + 1) l) ++ openR (i + (l.length + 1)) m
    rw [openR_app (i + 1) l m, List.append_assoc, show i + 1 + l.length = i + (l.length + 1) by omega]
theorem openR_mem : ∀ {i : Nat} {l : List (Int × Bool)} {q : Int × Int}, q ∈ openR i l → ∃ (j : Nat) (hj : j < l.length), q.1 = (i : Int) + j + 1 ∧ l[j].2 = false ∧ q.2 = l[j].1
  | i, x :: l, q, h => by
    rcases List.mem_append.1 h with h | h
    · split at h
      · cases h
      · rename_i hx
        have := List.mem_singleton.1 h
        subst this
        exact ⟨0, by simp, by simp, by simpa using hx, rfl⟩
    · obtain ⟨j, hj, h1, h2, h3⟩ := openR_mem h
      exact ⟨j + 1, by simpa using hj, by rw [h1]; simp; omega, by simpa using h2, by simpa using h3⟩
theorem openR_keys : ∀ (i : Nat) (l : List (Int × Bool)), ((openR i l).map (·.1)).Nodup
  | i, [] => by simp [openR]
  | i, x :: l => by
    show (((if x.2 then [] else [((i : Int) + 1, x.1)]) ++ openR (i + 1) l).map (·.1)).Nodup
    split
    · exact openR_keys (i + 1) l
    · simp only [List.cons_append, List.nil_append, List.map_cons, List.nodup_cons]
      refine ⟨fun h => ?_, openR_keys (i + 1) l⟩
      obtain ⟨q, hq, h1⟩ := List.mem_map.1 h
      obtain ⟨j, _, h2, _⟩ := openR_mem hq
      omega
theorem openR_none {l : List (Int × Bool)} {z : Int} (h : ∀ (j : Nat) (hj : j < l.length), z = (j : Int) + 1 → l[j].2 = true) : mget (openR 0 l) z = none ∧ mdel (openR 0 l) z = openR 0 l := by
  have hn : ∀ p ∈ openR 0 l, p.1 ≠ z := fun p hp e => by
    obtain ⟨j, hj, h1, h2, _⟩ := openR_mem hp
    rw [h j hj (by rw [← e, h1]; simp)] at h2
    cases h2
  exact ⟨mget_none hn, mdel_none hn⟩
theorem openR_some {l : List (Int × Bool)} {j : Nat} (hj : j < l.length) (h : l[j].2 = false) : (mget (openR 0 l) ((j : Int) + 1)).isSome = true ∧ mdel (openR 0 l) ((j : Int) + 1) = openR 0 (l.set j (l[j].1, true)) := by
  have hs : l = l.take j ++ l[j] :: l.drop (j + 1) := by rw [List.getElem_cons_drop, List.take_append_drop]
  have hlen : (l.take j).length = j := by simp; omega
  have e1 : openR 0 l = openR 0 (l.take j) ++ ((j : Int) + 1, l[j].1) :: openR (j + 1) (l.drop (j + 1)) := by
    conv => lhs; rw [hs]
    rw [openR_app, hlen, Nat.zero_add]
    show _ ++ ((if l[j].2 then [] else [((j : Int) + 1, l[j].1)]) ++ openR (j + 1) _) = _
    rw [h]
    rfl
  have e2 : l.set j (l[j].1, true) = l.take j ++ (l[j].1, true) :: l.drop (j + 1) := by rw [List.set_eq_take_append_cons_drop, if_pos hj]
  have e3 : openR 0 (l.set j (l[j].1, true)) = openR 0 (l.take j) ++ openR (j + 1) (l.drop (j + 1)) := by
    rw [e2, openR_app, hlen, Nat.zero_add]
    rfl
  have ha : ∀ p ∈ openR 0 (l.take j), p.1 ≠ (j : Int) + 1 := fun p hp e => by
    obtain ⟨i, hi, h1, _⟩ := openR_mem hp
    rw [hlen] at hi
    omega
  have hc : ∀ p ∈ openR (j + 1) (l.drop (j + 1)), p.1 ≠ (j : Int) + 1 := fun p hp e => by
    obtain ⟨i, hi, h1, _⟩ := openR_mem hp
    omega
  rw [e1, e3]
  exact ⟨by rw [mget_some ha]; rfl, mdel_some ha hc⟩
theorem minL_app (n : Int) (R : List (Int × Int)) (q : Int × Int) : minL n (R ++ [q]) = min (minL n R) q.2 := by unfold minL; simp
def OldQ (l : List (Int × Bool)) (n : Int) : Int := minL n (openR 0 l)
theorem oldQ_snoc (l : List (Int × Bool)) (x : Int × Bool) (n : Int) : OldQ (l ++ [x]) n = if x.2 then OldQ l n else min (OldQ l n) x.1 := by
  unfold OldQ
  rw [openR_app]
  show minL n (openR 0 l ++ ((if x.2 then [] else [(((0 + l.length : Nat) : Int) + 1, x.1)]) ++ [])) = _
  split
  · simp
  · rw [List.append_nil, minL_app]
set_option maxRecDepth 100000 in
set_option maxHeartbeats 2000000 in
theorem roldest_calls (r : RS) (n : Int) (w : World) (h : RSAt w r) (hl : r.rds.length ≤ 4611686018427387904) :
    Calls Tryz.prog 41 #[.pointer (some ⟨r.p, 0, none⟩), .int .i64 n] w fun e w' => e = .returned (.int .i64 (minL n (openR 0 r.rds))) ∧ w' = w := by
  obtain ⟨A, c, hv⟩ := row_slice h.rd
  have c2 : w.cell? ⟨r.p, 2, none⟩ = some (.slice A r.rds.length c) := by rw [h.blk.cell 2, hv]; rfl
  have H := Lib.hid h
  have HV := Lib.hid hv
  clear h hv
  go_enter Tryz.func41, Tryz.ntmps41
  go_wp2_with (fail)
  go_loopw [1, 5] (fun t i wr => ∃ (k : Nat) (z : Int), k ≤ r.rds.length ∧ i = .int .i64 k ∧ t = .int .i64 z ∧ Hid (OldQ (r.rds.take k) n = z) ∧ wr = w) (fun _ i _ => r.rds.length - (intOf i).toNat)
  case atStart => exact ⟨0, n, Nat.zero_le _, rfl, rfl, Lib.hid rfl, rfl⟩
  case round =>
    obtain ⟨k, z, hk, rfl, rfl, HZ, hwr⟩ := hrel
    subst hwr
    by_cases hlt : k < r.rds.length
    · have hkl : (k : Int) < r.rds.length := by omega
      obtain ⟨g, rfl, e0, e1⟩ := H.out.rdAt HV.out hlt
      have hT : r.rds.take (k + 1) = r.rds.take k ++ [r.rds[k]] := List.take_succ_eq_append_getElem hlt
      have hq := oldQ_snoc (r.rds.take k) r.rds[k] n
      rw [← hT, HZ.out] at hq
      obtain ⟨x, hx⟩ : ∃ x, r.rds[k] = x := ⟨_, rfl⟩
      rw [hx] at e0 e1 hq
      obtain ⟨m, b⟩ := x
      simp only at e0 e1 hq
      cases b with
      | true =>
        have HQ := Lib.hid hq
        clear hq hT hx
        go_wp2_with (fail)
        go_roundw
        case rel => exact ⟨k + 1, z, by omega, by go_num, rfl, Lib.hid HQ.out, by first | rfl | trivial⟩
        case measure => simp [intOf]; omega
      | false =>
        by_cases hlt2 : m < z
        · have HQ := Lib.hid (show OldQ (r.rds.take (k + 1)) n = m by rw [hq]; simp; omega)
          clear hq hT hx
          go_wp2_with (fail)
          go_roundw
          case rel => exact ⟨k + 1, m, by omega, by go_num, rfl, Lib.hid HQ.out, by first | rfl | trivial⟩
          case measure => simp [intOf]; omega
        · have HQ := Lib.hid (show OldQ (r.rds.take (k + 1)) n = z by rw [hq]; simp; omega)
          clear hq hT hx
          go_wp2_with (fail)
          go_roundw
          case rel => exact ⟨k + 1, z, by omega, by go_num, rfl, Lib.hid HQ.out, by first | rfl | trivial⟩
          case measure => simp [intOf]; omega
    · obtain rfl : k = r.rds.length := by omega
      have hz := HZ.out
      rw [List.take_length] at hz
      have HZ2 := Lib.hid hz
      clear hz
      go_wp2
      go_ret
      exact ⟨ret_int (by have := HZ2.out; unfold OldQ at this; exact this.symm), rfl⟩
/-- One of its own written, or one more told. -/
theorem rd_set {w : World} {r : RS} (h : RSAt w r) {g c : Nat} (hv : r.dv = .slice (some ⟨g, 0, none⟩) r.rds.length c) {j : Nat} (hj : j < r.rds.length) :
    TurnR w (w.setCell ⟨g, j * 2 + 1, none⟩ (.bool true)) r { r with rds := r.rds.set j (r.rds[j].1, true) } := by
  have hrd := h.rd
  rw [hv] at hrd
  have hbt : But w (w.setCell ⟨g, j * 2 + 1, none⟩ (.bool true)) (fun i => i = g) := (But.refl w (fun i => i = g)).setCell (p := ⟨g, j * 2 + 1, none⟩) (fun _ => rfl) _
  refine ⟨⟨h.blk.but hbt (fun e => own_blk_ne hrd h.blk (by decide) (by rw [e]; rfl)), own_but h.row hbt (fun b hb e => own_own_ne h.row hrd (by decide) hb (by rw [e]; rfl)), fun x hx => rowR_but (h.vs x hx) hbt (fun b hb e => own_own_ne (h.vs x hx) hrd (by decide) hb (by rw [e]; rfl)), ?_, h.up, h.mx, h.kn⟩, rfl, rfl, hbt.weak (fun i _ e => .inr (.inr (.inl (by rw [hv, e]; rfl)))), fun i hi => .inl hi⟩
  simp only [List.length_set]
  rw [hv]
  exact row_set rdLen hrd hj (r := 1) _ (r.rds[j].1, true) (by decide) rfl
theorem rd_new {w w2 w3 : World} {r : RS} {o : Obj} {n : Int} {dv' : Value} (h : RSAt w2 r) (hb : Below w.heap.size w w2)
    (hO : w3.ownsRow 0 114 2 dv' (r.rds.length + 1) (r.rds.flatMap rdC ++ [.int .i64 n, .bool false])) (hg : (w2.alloc o).grownBy w3 r.dv.ownBlock) (hat : dv'.ownBlock = r.dv.ownBlock ∨ dv'.ownBlock = some (w2.alloc o).heap.size) :
    TurnR w (w3.setCell ⟨r.p, 2, none⟩ dv') r { r with dv := dv', rds := r.rds ++ [(n, false)] } := by
  have hb3 : But w2 w3 (fun i => r.dv.ownBlock = some i) := ((But.refl w2 _).alloc o).grown hg (fun i _ e => e)
  have b3 := h.blk.but hb3 (own_blk_ne h.rd h.blk (by decide))
  have hbp : But w3 (w3.setCell ⟨r.p, 2, none⟩ dv') (fun i => i = r.p) := (But.refl w3 (fun i => i = r.p)).setCell (p := ⟨r.p, 2, none⟩) (fun _ => rfl) dv'
  have hrow := own_but h.row hb3 (fun b hb' q => own_own_ne h.row h.rd (by decide) hb' q)
  refine ⟨⟨b3.set_ 2 dv', own_but hrow hbp (fun b hb' q => own_blk_ne hrow b3 (by decide) (q ▸ hb')), fun x hx => ?_, ?_, h.up, h.mx, h.kn⟩, rfl, rfl, ?_, fun i hi => ?_⟩
  · have h3 := rowR_but (h.vs x hx) hb3 (fun b hb' q => own_own_ne (h.vs x hx) h.rd (by decide) hb' q)
    exact rowR_but h3 hbp (fun b hb' q => own_blk_ne h3 b3 (by decide) (q ▸ hb'))
  · rw [List.length_append, List.flatMap_append]
    exact own_but hO hbp (fun b hb' q => own_blk_ne hO b3 (by decide) (q ▸ hb'))
  · exact ((But.of_below hb _).trans hb3 (fun i _ e => .inr (.inr (.inl e)))).trans hbp (fun i _ e => .inl e)
  · rcases hi with h1 | h1 | h1 | h1
    · exact .inl (.inl h1)
    · exact .inl (.inr (.inl h1))
    · rcases hat with h2 | h2
      · exact .inl (.inr (.inr (.inl (h2 ▸ h1))))
      · have h1' : dv'.ownBlock = some i := h1
        rw [h2] at h1'
        cases h1'
        exact .inr (by have := hb.size; simp; omega)
    · exact .inl (.inr (.inr (.inr h1)))
def ROpenQ (w : World) (r : RS) (n : Int) (e : Ending) (w' : World) : Prop := ∃ r', e = .returned (.int .i64 ((r.rds.length : Int) + 1)) ∧ TurnR w w' r r' ∧ r'.rowsA = r.rowsA ∧ r'.rds = r.rds ++ [(n, false)]
set_option maxRecDepth 100000 in
set_option maxHeartbeats 4000000 in
theorem ropen_calls (r : RS) (n : Int) (w : World) (h : RSAt w r) (hl : r.rds.length < 8796093022000) :
    Calls Tryz.prog 39 #[.pointer (some ⟨r.p, 0, none⟩), .int .i64 n] w (ROpenQ w r n) := by
  obtain ⟨i0, hi0, hz0, hz1, hz2⟩ := info_parts infoRdr
  obtain ⟨A, c, hv⟩ := row_slice h.rd
  have c2 : w.cell? ⟨r.p, 2, none⟩ = some (.slice A r.rds.length c) := by rw [h.blk.cell 2, hv]; rfl
  have z2 : w.frozen? ⟨r.p, 2, none⟩ = false := h.blk.frozen 2
  have hrd := h.rd
  rw [hv] at hrd
  have d2 : (w.alloc (.cells #[.int .i64 n, .bool false] 114)).cell? ⟨r.p, 2, none⟩ = some (.slice A r.rds.length c) := by rw [(h.blk.alloc _).cell 2, hv]; rfl
  have HRD := Lib.hid hrd
  have HV := Lib.hid hv
  have HB4 := Lib.hid (fun (o : Obj) (w4 : World) (hg : (w.alloc o).grownBy w4 (Value.slice A r.rds.length c).ownBlock) => Blk.but (S := fun i => (Value.slice A r.rds.length c).ownBlock = some i) (show Blk w r.p _ _ from h.blk) (((But.refl w _).alloc o).grown hg (fun i _ e => e)) (own_blk_ne hrd h.blk (by decide)))
  have H := Lib.hid h
  clear h hv hrd
  go_enter Tryz.func39, Tryz.ntmps39
  go_wp2_with ((at_builtin; refine wpList_append_wide_at _ rfl (.tmp 9) (.tmp 12) 46 rfl 0 114 i0 _ 2 16 Tryz.underlying46 hi0 hz0 hz1 hz2 rfl (by decide) _ r.rds.length (r.rds.flatMap rdC) rfl (HRD.out.alloc _) ⟨w.heap.size, 0, none⟩ 1 1 [.int .i64 n, .bool false] rfl rfl ?_ ?_ ?_ ?_ ?_ ?_; exact new_cells w 114 [.int .i64 n, .bool false]; (simp [Value.oneCell']); (unfold maxLen; omega); (omega); exact Nat.zero_le _; intro v4 w4 hown1 hg1 _ hat1; obtain ⟨BA, bc, rfl⟩ := own_slice hown1; have hpp := rd_new (w := w) (w2 := w) H.out (Below.refl _ _) hown1 (by rw [HV.out]; exact hg1) (by rw [HV.out]; exact hat1); have hb4 := HB4.out _ w4 hg1; have q1 : w4.cell? ⟨r.p, 2, none⟩ = some (.slice A r.rds.length c) := (by rw [hb4.cell 2, HV.out]; rfl); have y1 : w4.frozen? ⟨r.p, 2, none⟩ = false := hb4.frozen 2; have q3 : (w4.setCell ⟨r.p, 2, none⟩ (.slice BA (r.rds.length + 1) bc)).cell? ⟨r.p, 2, none⟩ = some (.slice BA (r.rds.length + 1) bc) := hpp.at_.blk.cell 2; have HPP := Lib.hid hpp; clear hpp hb4 hown1 hg1 hat1))
  go_ret
  exact ⟨_, rfl, HPP.out, rfl, rfl⟩
def RCloseQ (w : World) (r : RS) (z : Int) (e : Ending) (w' : World) : Prop := ∃ r', e = .returned (.bool (mget (openR 0 r.rds) z).isSome) ∧ TurnR w w' r r' ∧ r'.rowsA = r.rowsA ∧ openR 0 r'.rds = mdel (openR 0 r.rds) z ∧ r'.rds.length = r.rds.length
set_option maxRecDepth 100000 in
set_option maxHeartbeats 4000000 in
theorem rclose_calls (r : RS) (z : Int) (w : World) (h : RSAt w r) (hl : r.rds.length ≤ 4611686018427387904) :
    Calls Tryz.prog 40 #[.pointer (some ⟨r.p, 0, none⟩), .int .i64 z] w (RCloseQ w r z) := by
  obtain ⟨A, c, hv⟩ := row_slice h.rd
  have c2 : w.cell? ⟨r.p, 2, none⟩ = some (.slice A r.rds.length c) := by rw [h.blk.cell 2, hv]; rfl
  have H := Lib.hid h
  have HV := Lib.hid hv
  clear h hv
  have hno : (∀ (j : Nat) (hj : j < r.rds.length), z = (j : Int) + 1 → r.rds[j].2 = true) → RCloseQ w r z (.returned (.bool false)) w := fun h => by
    obtain ⟨h1, h2⟩ := openR_none h
    exact ⟨r, by rw [h1]; rfl, TurnR.below H.out (Below.refl _ _), rfl, h2.symm, rfl⟩
  have HNO := Lib.hid hno
  clear hno
  go_enter Tryz.func40, Tryz.ntmps40
  by_cases h1 : z < 1
  · have hh := Lib.hid (HNO.out (fun j hj e => by omega))
    go_wp2
    go_ret
    exact hh.out
  · by_cases h2 : (r.rds.length : Int) < z
    · have hh := Lib.hid (HNO.out (fun j hj e => by omega))
      go_wp2
      go_ret
      exact hh.out
    · obtain ⟨j, rfl⟩ : ∃ j : Nat, z = (j : Int) + 1 := ⟨(z - 1).toNat, by omega⟩
      have hj : j < r.rds.length := by omega
      obtain ⟨g, rfl, _, e1⟩ := H.out.rdAt HV.out hj
      have hjl : (j : Int) < r.rds.length := by omega
      have hw1 : IntKind.i64.wrap ((j : Int) + 1 - 1) = j := by rw [show (j : Int) + 1 - 1 = j by omega]; exact IntWalk.i64_in _ (by omega)
      have hrd := H.out.rd
      rw [HV.out] at hrd
      have f1 : w.frozen? ⟨g, j * 2 + 1, none⟩ = false := row_frozen hrd _
      clear hrd
      obtain ⟨b, hb⟩ : ∃ b, r.rds[j].2 = b := ⟨_, rfl⟩
      rw [hb] at e1
      cases b with
      | true =>
        have hh := Lib.hid (HNO.out (fun i hi e => by have : i = j := by omega
                                                      subst this; exact hb))
        clear hb
        go_wp2
        go_ret
        exact hh.out
      | false =>
        obtain ⟨hs1, hs2⟩ := openR_some hj hb
        have hst := rd_set H.out HV.out hj
        have HS1 := Lib.hid hs1
        have HS2 := Lib.hid hs2
        have HST := Lib.hid hst
        clear hs1 hs2 hst hb
        go_wp2
        go_ret
        exact ⟨_, by rw [HS1.out]; rfl, HST.out, rfl, HS2.out.symm, by simp⟩
theorem mput_self {M : List (Key × List VerS)} {k : Key} {L : List VerS} (hn : (M.map (·.1)).Nodup) (h : mget M k = some L) : mput M k L = M := by
  rcases mget_cases hn k with ⟨h1, _⟩ | ⟨v, a, c, h1, rfl, h3, h4⟩
  · rw [h1] at h; cases h
  · rw [h] at h1
    cases h1
    exact mput_some h3 h4
def RPruneQ (w : World) (r : RS) (k : Key) (n : Int) (e : Ending) (w' : World) : Prop := ∃ r', e = .returned (.int .i64 (pruneN (getR r.rowsA k) (minL n (openR 0 r.rds)))) ∧ TurnR w w' r r' ∧ r'.rowsA = prR r.rowsA k (minL n (openR 0 r.rds)) ∧ r'.rds = r.rds
set_option maxRecDepth 100000 in
set_option maxHeartbeats 4000000 in
theorem rpruneS_calls (r : RS) (k : Key) (n : Int) (w : World) (h : RSAt w r) (hl : r.rows.length < 3518437208800) (hd : r.rds.length ≤ 4611686018427387904) (hll : (getR r.rowsA k).length ≤ 9382499223000) :
    Calls Tryz.prog 42 #[.pointer (some ⟨r.p, 0, none⟩), .agg #[.int .i64 k.acc, .int .i64 k.ast], .int .i64 n] w (RPruneQ w r k n) := by
  have hb : Below w.heap.size w (w.alloc (.cells #[.int .i64 k.acc, .int .i64 k.ast] 33)) := (Below.refl _ _).alloc (Nat.le_refl _) _
  obtain ⟨g, hg⟩ : ∃ g, w.heap.size = g := ⟨_, rfl⟩
  have hk0 := Blk.new w 33 #[.int .i64 k.acc, .int .i64 k.ast]
  rw [hg] at hk0
  have hf := rrow_calls r k _ (h.below hb) (by omega)
  obtain ⟨m, hm0⟩ : ∃ m, minL n (openR 0 r.rds) = m := ⟨_, rfl⟩
  have HF := Lib.hid hf
  have H := Lib.hid h
  have HB := Lib.hid hb
  have HK := Lib.hid hk0
  have HG0 := Lib.hid hg
  have HMM := Lib.hid hm0
  clear h hb hf hk0 hg
  unfold RPruneQ
  rw [hm0]
  clear hm0
  go_enter Tryz.func42, Tryz.ntmps42
  go_wp2_with (fail)
  refine HF.out.mono ?_
  rintro e w2 ⟨A, c, rfl, hR, hu, hm, hb2⟩
  have HB2 := Lib.hid (HB.out.trans (hb2.mono HB.out.size))
  have HK2 := Lib.hid (HK.out.below hb2 HK.out.lt)
  have ho := roldest_calls r n w2 (H.out.below HB2.out) hd
  rw [HMM.out] at ho
  have HO := Lib.hid ho
  have hp := rprune2_calls (getR r.rowsA k) hu _ m w2 hR hll
  have HP := Lib.hid hp
  have HU := Lib.hid hu
  have HM := Lib.hid hm
  rw [HG0.out]
  clear hb2 hp hu hm hR ho
  go_wp2_with (fail)
  refine HO.out.mono ?_
  rintro e w2' ⟨rfl, rfl⟩
  go_wp2_with (fail)
  refine HP.out.mono ?_
  rintro e w3 ⟨v', rfl, hR3, hb3, hnew⟩
  have HB3 := Lib.hid (HB2.out.trans (hb3.mono HB2.out.size))
  have hk3 := HK2.out.below hb3 HK2.out.lt
  have k0 : w3.cell? ⟨g, 0, none⟩ = some (.int .i64 k.acc) := hk3.cell 0
  have k1 : w3.cell? ⟨g, 1, none⟩ = some (.int .i64 k.ast) := hk3.cell 1
  have H3 := Lib.hid (H.out.below HB3.out)
  obtain ⟨VA, vc, rfl⟩ := own_slice hR3
  have hnn : (r.rowsA.map (·.1)).Nodup := by unfold RS.rowsA; rw [List.map_map]; exact H.out.kn
  by_cases hgo : 0 < pruneN (getR r.rowsA k) m
  · have hsome : (mget r.rowsA k).isSome = true := by
      rcases mget_cases hnn k with ⟨h1, _⟩ | ⟨v, a, c, h1, _⟩
      · have : getR r.rowsA k = [] := by unfold getR; rw [h1]; rfl
        rw [this] at hgo
        simp [pruneN, leN] at hgo
      · rw [h1]; rfl
    have e2 : prR r.rowsA k m = mput r.rowsA k (pruneL (getR r.rowsA k) m) := by unfold prR; rw [if_pos hsome]
    have hs := rset_calls r k VA vc _ w3 H3.out hR3 (HU.out.prune _) (pruneL_max HM.out) hl
    have HS := Lib.hid hs
    have HN := Lib.hid (hnew hgo)
    have E2 := Lib.hid e2
    obtain ⟨q, hq⟩ : ∃ q, pruneN (getR r.rowsA k) m = q := ⟨_, rfl⟩
    rw [hq] at hgo ⊢
    have HQQ := Lib.hid hq
    clear hs hnew e2 hb3 hk3 hR3 hsome hnn hq
    go_wp2_with (fail)
    refine HS.out.mono ?_
    rintro e w4 ⟨r', rfl, hq⟩
    have HQ := Lib.hid hq
    clear hq
    go_wp2
    go_ret
    exact ⟨r', by rw [HQQ.out]; rfl, HQ.out.turn HB3.out (fun b hb => Nat.le_trans HB2.out.size (HN.out b hb)), by rw [E2.out]; exact HQ.out.rows, HQ.out.rds⟩
  · have e3 : pruneL (getR r.rowsA k) m = getR r.rowsA k := by
      unfold pruneN at hgo
      unfold pruneL
      split
      · rfl
      · rename_i hh
        rw [if_neg hh] at hgo
        omega
    have e2 : prR r.rowsA k m = r.rowsA := by
      unfold prR
      split
      · rename_i hs
        rw [e3]
        obtain ⟨L, hL⟩ := Option.isSome_iff_exists.1 hs
        have : getR r.rowsA k = L := by unfold getR; rw [hL]; rfl
        rw [this]
        exact mput_self hnn hL
      · rfl
    have E2 := Lib.hid e2
    obtain ⟨q, hq⟩ : ∃ q, pruneN (getR r.rowsA k) m = q := ⟨_, rfl⟩
    rw [hq] at hgo ⊢
    have HQQ := Lib.hid hq
    clear hnew e2 e3 hb3 hk3 hR3 k0 k1 hnn hq
    go_wp2
    go_ret
    exact ⟨r, by rw [HQQ.out]; rfl, TurnR.below H.out HB3.out, by rw [E2.out], rfl⟩
end Go.Proofs.YtflkddllofeiaaaGreatDoor

/- The document's store in memory: Less, Keys. -/
namespace Go.Proofs.YtflkddllofeiaaaGreatDoor
open Go.RowKit Go.MapKept Go.ChangeMaps Go.Maps

set_option maxRecDepth 100000 in
set_option maxHeartbeats 2000000 in
theorem rless_calls (x y : Key) (w : World) : Calls Tryz.prog 47 #[.agg #[.int .i64 x.acc, .int .i64 x.ast], .agg #[.int .i64 y.acc, .int .i64 y.ast]] w
    fun e w' => e = .returned (.bool (decide (ltK x y))) ∧ Below w.heap.size w w' := by
  have hb : Below w.heap.size w ((w.alloc (.cells #[.int .i64 x.acc, .int .i64 x.ast] 33)).alloc (.cells #[.int .i64 y.acc, .int .i64 y.ast] 33)) := ((Below.refl _ _).alloc (Nat.le_refl _) _).alloc (by simp) _
  have HB := Lib.hid hb
  clear hb
  have ht : (ltK x y) ∨ ¬ ltK x y := Classical.em _
  obtain ⟨xa, xb⟩ := x
  obtain ⟨ya, yb⟩ := y
  have hlt : ltK ⟨xa, xb⟩ ⟨ya, yb⟩ ↔ xa < ya ∨ xa = ya ∧ xb < yb := Iff.rfl
  by_cases h1 : xa < ya
  · have HD := Lib.hid (decide_eq_true (hlt.2 (.inl h1)))
    clear ht hlt
    go_enter Tryz.func47, Tryz.ntmps47
    go_wp2
    go_ret
    exact ⟨by rw [HD.out]; rfl, HB.out⟩
  · by_cases h2 : xa = ya
    · subst h2
      by_cases h3 : xb < yb
      · have HD := Lib.hid (decide_eq_true (hlt.2 (.inr ⟨rfl, h3⟩)))
        clear ht hlt
        go_enter Tryz.func47, Tryz.ntmps47
        go_wp2
        go_ret
        exact ⟨by rw [HD.out]; rfl, HB.out⟩
      · have HD := Lib.hid (decide_eq_false (p := ltK ⟨xa, xb⟩ ⟨xa, yb⟩) (fun h => by have := hlt.1 h; omega))
        clear ht hlt
        go_enter Tryz.func47, Tryz.ntmps47
        go_wp2
        go_ret
        exact ⟨by rw [HD.out]; rfl, HB.out⟩
    · have HD := Lib.hid (decide_eq_false (p := ltK ⟨xa, xb⟩ ⟨ya, yb⟩) (fun h => by have := hlt.1 h; omega))
      clear ht hlt
      go_enter Tryz.func47, Tryz.ntmps47
      go_wp2
      go_ret
      exact ⟨by rw [HD.out]; rfl, HB.out⟩
/-- x in the midst of l. -/
def mid (l : List Key) (x : Key) (m : Nat) : List Key := l.take m ++ x :: l.drop m
theorem mid_len (l : List Key) (x : Key) {m : Nat} (h : m ≤ l.length) : (mid l x m).length = l.length + 1 := by unfold mid; simp; omega
theorem mid_get (l : List Key) (x : Key) {m : Nat} (h : m ≤ l.length) (i : Nat) : (mid l x m)[i]? = if i < m then l[i]? else if i = m then some x else l[i - 1]? := by
  unfold mid
  have hl : (l.take m).length = m := by simp; omega
  rw [List.getElem?_append, hl]
  by_cases h1 : i < m
  · rw [if_pos h1, if_pos h1, List.getElem?_take, if_pos h1]
  · rw [if_neg h1, if_neg h1]
    by_cases h2 : i = m
    · subst h2
      rw [if_pos rfl]
      simp
    · rw [if_neg h2]
      obtain ⟨t, ht⟩ : ∃ t, i - m = t + 1 := ⟨i - m - 1, by omega⟩
      rw [ht, List.getElem?_cons_succ, List.getElem?_drop]
      congr 1
      omega
theorem mid_at (l : List Key) (x : Key) {m : Nat} (h : m ≤ l.length) (h2 : m < (mid l x m).length) : (mid l x m)[m] = x := by
  have h3 := mid_get l x h m
  rw [if_neg (by omega), if_pos rfl, List.getElem?_eq_getElem h2] at h3
  exact Option.some.inj h3
theorem mid_before (l : List Key) (x : Key) {j : Nat} (h : j < l.length) (h2 : j < (mid l x (j + 1)).length) : (mid l x (j + 1))[j] = l[j] := by
  have h3 := mid_get l x (show j + 1 ≤ l.length by omega) j
  rw [if_pos (by omega), List.getElem?_eq_getElem h2, List.getElem?_eq_getElem h] at h3
  exact Option.some.inj h3
theorem mid_swap (l : List Key) (x : Key) {j : Nat} (h : j < l.length) : ((mid l x (j + 1)).set (j + 1) l[j]).set j x = mid l x j := by
  have hl := mid_len l x (show j + 1 ≤ l.length by omega)
  refine List.ext_getElem? (fun i => ?_)
  rw [List.getElem?_set, List.getElem?_set, mid_get l x (show j + 1 ≤ l.length by omega), mid_get l x (Nat.le_of_lt h), List.length_set, hl]
  by_cases e1 : j = i
  · subst e1
    rw [if_pos rfl, if_pos (by omega), if_neg (by omega), if_pos rfl]
  · rw [if_neg e1]
    by_cases e2 : j + 1 = i
    · subst e2
      rw [if_pos rfl, if_pos (by omega), if_neg (by omega), if_neg (by omega), show j + 1 - 1 = j by omega, List.getElem?_eq_getElem h]
    · rw [if_neg e2]
      by_cases e3 : i < j
      · rw [if_pos (by omega), if_pos e3]
      · rw [if_neg (by omega), if_neg (by omega), if_neg e3, if_neg (by omega)]
theorem mid_perm (l : List Key) (x : Key) (m : Nat) : (mid l x m).Perm (l ++ [x]) := by
  unfold mid
  have h1 : (l.take m ++ x :: l.drop m).Perm (x :: (l.take m ++ l.drop m)) := List.perm_middle
  rw [List.take_append_drop] at h1
  exact h1.trans (List.perm_append_singleton x l).symm
theorem mid_up {l : List Key} {x : Key} {m : Nat} (hl : l.Pairwise ltK) (ha : ∀ y ∈ l.drop m, ltK x y) (hb : ∀ y ∈ l.take m, ltK y x) : (mid l x m).Pairwise ltK := by
  unfold mid
  have h0 := hl
  rw [← List.take_append_drop m l, List.pairwise_append] at h0
  rw [List.pairwise_append]
  refine ⟨h0.1, List.pairwise_cons.2 ⟨ha, h0.2.1⟩, fun a h1 b h2 => ?_⟩
  rcases List.mem_cons.1 h2 with rfl | h2
  · exact hb a h1
  · exact h0.2.2 a h1 b h2
theorem ltK_trans {x y z : Key} (h1 : ltK x y) (h2 : ltK y z) : ltK x z := by unfold ltK at *; omega
theorem ltK_tri {x y : Key} (h : ¬ ltK x y) (hne : x ≠ y) : ltK y x := by
  rcases keyNe hne with h1 | ⟨h1, h2⟩ <;> (unfold ltK at *; omega)
/-- All ahead of the place stand below x. -/
theorem take_below {l : List Key} {x : Key} {j : Nat} (hl : l.Pairwise ltK) (hx : x ∉ l) (hj : j < l.length) (h : ¬ ltK x l[j]) : ∀ y ∈ l.take (j + 1), ltK y x := by
  have h0 : ltK l[j] x := ltK_tri h (fun e => hx (e ▸ List.getElem_mem hj))
  intro y hy
  obtain ⟨i, hi, rfl⟩ := List.getElem_of_mem hy
  simp only [List.length_take] at hi
  rw [List.getElem_take]
  by_cases e : i = j
  · subst e; exact h0
  · exact ltK_trans (List.pairwise_iff_getElem.1 hl i j (by omega) hj (by omega)) h0
theorem drop_above {l : List Key} {x : Key} {j : Nat} (hj : j < l.length) (h : ltK x l[j]) (ha : ∀ y ∈ l.drop (j + 1), ltK x y) : ∀ y ∈ l.drop j, ltK x y := by
  intro y hy
  rw [← List.getElem_cons_drop hj] at hy
  rcases List.mem_cons.1 hy with rfl | hy
  · exact h
  · exact ha y hy
theorem row_has {w : World} {base s g n c : Nat} {e : TypeId} {xs : List Value} (h : w.ownsRow base e s (.slice (some ⟨g, 0, none⟩) n c) n xs) {i : Nat} (hi : i < n * s) : ∃ u, w.cell? ⟨g, i, none⟩ = some u := by
  obtain ⟨ad, e, _, hc⟩ := (Reads.of_own h).2 (by rcases Nat.eq_zero_or_pos n with h0 | h0; · subst h0; omega
                                                  · exact h0)
  injection e with e
  subst e
  have hl : i < xs.length := by rw [h.1]; exact hi
  exact ⟨xs[i], by have := hc i xs[i] (List.getElem?_eq_getElem hl); rwa [row_add0] at this⟩
/-- Two writes of an element. -/
theorem key_put {w : World} {base g c n : Nat} {M : List Key} (h : w.ownsRow base 33 2 (.slice (some ⟨g, 0, none⟩) n c) n (keysC M)) {j : Nat} (hj : j < M.length) (y : Key) :
    ((w.setCell ⟨g, j * 2, none⟩ (.int .i64 y.acc)).setCell ⟨g, j * 2 + 1, none⟩ (.int .i64 y.ast)).ownsRow base 33 2 (.slice (some ⟨g, 0, none⟩) n c) n (keysC (M.set j y)) := by
  have h1 := row_set Key.len h hj (r := 0) (.int .i64 y.acc) ⟨y.acc, M[j].ast⟩ (by decide) rfl
  have h2 := row_set Key.len h1 (j := j) (by simpa using hj) (r := 1) (.int .i64 y.ast) y (by decide) (by simp [Key.cs])
  rw [List.set_set] at h2
  exact h2
theorem key_cells {w : World} {base g c n : Nat} {M : List Key} (h : w.ownsRow base 33 2 (.slice (some ⟨g, 0, none⟩) n c) n (keysC M)) {j : Nat} (hj : j < M.length) (hn : n = M.length) :
    w.cell? ⟨g, j * 2, none⟩ = some (.int .i64 M[j].acc) ∧ w.cell? ⟨g, j * 2 + 1, none⟩ = some (.int .i64 M[j].ast) := by
  subst hn
  exact ⟨row_cell Key.len h hj (r := 0) rfl, row_cell Key.len h hj (r := 1) rfl⟩
def RKeysQ (w : World) (r : RS) (e : Ending) (w' : World) : Prop :=
  ∃ v l, e = .returned v ∧ w'.ownsRow w.heap.size 33 2 v l.length (keysC l) ∧ l.Perm (r.rowsA.map (·.1)) ∧ l.Pairwise ltK ∧ Below w.heap.size w w'
theorem infoKeyR : (Tryz.prog.info? 33).map (fun i => (i.zero, i.size, i.bytes)) = some (some (.agg #[.int .i64 0, .int .i64 0]), 2, 16) := by kernel_rfl
set_option maxRecDepth 100000 in
set_option maxHeartbeats 8000000 in
theorem rkeys_calls (r : RS) (w : World) (h : RSAt w r) (hl : r.rows.length ≤ 8000000000000) : Calls Tryz.prog 14 #[.pointer (some ⟨r.p, 0, none⟩)] w (RKeysQ w r) := by
  obtain ⟨i0, hi0, hz0, hz1, hz2⟩ := info_parts infoKeyR
  obtain ⟨A, c, hv⟩ := row_slice h.row
  have H := Lib.hid h
  have HV := Lib.hid hv
  clear h hv
  go_enter Tryz.func14, Tryz.ntmps14
  go_wp2_with (fail)
  go_loopw [3, 4] (fun s3 s4 wr => ∃ (i : Nat) (l : List Key) (v : Value), i ≤ r.rows.length ∧ s3 = v ∧ s4 = .int .i64 i ∧ wr.ownsRow w.heap.size 33 2 v i (keysC l) ∧ l.length = i ∧ l.Perm ((r.rows.take i).map (·.key)) ∧ l.Pairwise ltK ∧ Below w.heap.size w wr) (fun _ i _ => r.rows.length - (intOf i).toNat)
  case atStart => exact ⟨0, [], _, Nat.zero_le _, rfl, rfl, World.ownsRow_nil _ _ _ _, rfl, by simp, List.Pairwise.nil, Below.refl _ _⟩
  case round =>
    obtain ⟨i, l, v, hi, rfl, rfl, hown, hll, hp, hup, hbel⟩ := hrel
    have H2 := Lib.hid (H.out.below hbel)
    have c1 : wr.cell? ⟨r.p, 1, none⟩ = some (.slice A r.rows.length c) := by rw [H2.out.blk.cell 1, HV.out]; rfl
    by_cases hlt : i < r.rows.length
    · have hil : (i : Int) < r.rows.length := by omega
      obtain ⟨g, rfl, e0, e1, _⟩ := H2.out.at_ HV.out hlt
      have hT : r.rows.take (i + 1) = r.rows.take i ++ [r.rows[i]] := List.take_succ_eq_append_getElem hlt
      have hkn := H.out.kn
      have hnx : r.rows[i].key ∉ l := fun hm => by
        have h1 := hp.mem_iff.1 hm
        obtain ⟨y, hy, e⟩ := List.mem_map.1 h1
        obtain ⟨q, hq, rfl⟩ := List.getElem_of_mem hy
        simp only [List.length_take] at hq
        rw [List.getElem_take] at e
        have h5 : (r.rows.map (·.key))[q]'(by simp; omega) = (r.rows.map (·.key))[i]'(by simpa using hlt) := by simp [e]
        have := (List.getElem_inj hkn).1 h5
        omega
      obtain ⟨x, hx⟩ : ∃ x, r.rows[i].key = x := ⟨_, rfl⟩
      rw [hx] at e0 e1 hnx
      have hp2 : (l ++ [x]).Perm ((r.rows.take (i + 1)).map (·.key)) := by
        rw [hT, List.map_append]
        simp only [List.map_cons, List.map_nil, hx]
        exact hp.append_right _
      have HP2 := Lib.hid hp2
      have HNX := Lib.hid hnx
      have HUP := Lib.hid hup
      have HBEL := Lib.hid hbel
      have HOWN := Lib.hid hown
      have HLL := Lib.hid hll
      have HBS := Lib.hid hbel.size
      obtain ⟨N, hN⟩ : ∃ N, i + 1 = N := ⟨_, rfl⟩
      have HN := Lib.hid hN
      have hN1 : (1 : Int) ≤ N := by omega
      have hN2 : (N : Int) ≤ 9000000000000 := by omega
      clear hT hkn hnx hx hp2 hup hp hbel hown hll hN
      go_wp2_with ((at_builtin; refine wpList_append_own _ rfl (.tmp 16) (.tmp 25) 40 rfl w.heap.size 33 i0 _ 2 16 Tryz.underlying40 hi0 hz0 hz1 hz2 rfl (by decide) _ i (keysC l) rfl (HOWN.out.alloc _) ⟨wr.heap.size, 0, none⟩ 1 1 [.int .i64 x.acc, .int .i64 x.ast] rfl rfl ?_ ?_ ?_ ?_ ?_ ?_; exact new_cells wr 33 [.int .i64 x.acc, .int .i64 x.ast]; (simp [Value.oneCell']); (unfold maxLen; omega); (omega); (have := HBS.out; simp; omega); intro v1 w1 hown1 hg1 _; obtain ⟨VA, vc, rfl⟩ := own_slice hown1; obtain ⟨gv, rfl⟩ := row_at0 hown1 (by omega); have HO1 := Lib.hid hown1; have HB1 := Lib.hid ((HBEL.out.alloc HBEL.out.size _).grown hg1 (by have := HBS.out; simp; omega) (fun b hb => own_base HOWN.out hb)); rw [HN.out]; clear hown1 hg1))
      obtain ⟨wo, rfl⟩ : ∃ wo : World, wo = w1 := ⟨_, rfl⟩
      go_loopw [5] (fun s5 wr => ∃ m : Nat, m ≤ i ∧ s5 = .int .i64 m ∧ wr.ownsRow w.heap.size 33 2 (.slice (some ⟨gv, 0, none⟩) N vc) N (keysC (mid l x m)) ∧ (∀ y ∈ l.drop m, ltK x y) ∧ Below w.heap.size w wr) (fun s5 _ => (intOf s5).toNat)
      case atStart =>
        refine ⟨i, Nat.le_refl _, by have := HN.out; congr 1; omega, ?_, ?_, HB1.out⟩
        · have e : mid l x i = l ++ [x] := by unfold mid; rw [← HLL.out, List.take_length, List.drop_length]
          have e2 : keysC (l ++ [x]) = keysC l ++ [.int .i64 x.acc, .int .i64 x.ast] := by unfold keysC; simp [Key.cs]
          rw [e, e2]
          have := HO1.out
          rw [HN.out] at this
          exact this
        · rw [← HLL.out, List.drop_length]
          exact fun y hy => by cases hy
      case round =>
        clear HO1 HB1 HBS HOWN HBEL c1 e0 e1
        obtain ⟨m, hm, rfl, hown, hab, hbel⟩ := hrel
        have hml : m ≤ l.length := by have := HLL.out; omega
        have hlen := mid_len l x hml
        have HOW := Lib.hid hown
        have HAB := Lib.hid hab
        have HBEL := Lib.hid hbel
        have HLEN := Lib.hid hlen
        clear hown hab hbel hlen
        have hmj : m = 0 ∨ ∃ j, m = j + 1 := by
          cases m with
          | zero => exact .inl rfl
          | succ j => exact .inr ⟨j, rfl⟩
        rcases hmj with rfl | ⟨j, hmj⟩
        · go_wp2_with (fail)
          go_quiet (fail)
          go_wp2
          go_roundw
          case rel => exact ⟨i + 1, mid l x 0, _, by omega, rfl, by go_num, by rw [HN.out]; exact own_but HOW.out (But.of_below (below_drewN (Below.refl _ _) _) (fun _ => False)) (fun _ _ h => h), by rw [HLEN.out, HLL.out], (mid_perm l x 0).trans HP2.out, mid_up HUP.out HAB.out (fun y hy => by simp at hy), below_drewN HBEL.out _⟩
          case measure => simp [intOf]; omega
        · have hjl : j < l.length := by omega
          obtain ⟨p0, p1⟩ := key_cells HOW.out (j := m) (by rw [HLEN.out]; omega) (by rw [HLEN.out, HLL.out, HN.out])
          obtain ⟨q0, q1⟩ := key_cells HOW.out (j := j) (by rw [HLEN.out]; omega) (by rw [HLEN.out, HLL.out, HN.out])
          rw [mid_at l x hml] at p0 p1
          have hqq : ∀ h2, (mid l x m)[j]'h2 = l[j] := by subst hmj; exact fun h2 => mid_before l x hjl h2
          rw [hqq] at q0 q1
          obtain ⟨y, hy⟩ : ∃ y, l[j] = y := ⟨_, rfl⟩
          rw [hy] at q0 q1
          have hless := fun W => rless_calls x y W
          have HLS := Lib.hid hless
          have hsw := mid_swap l x hjl
          rw [hy, ← hmj] at hsw
          have HSW := Lib.hid hsw
          have HY := Lib.hid hy
          have hm0 : (0 : Int) < m := by omega
          have hmN : (m : Int) < N := by have := HLL.out; have := HN.out; omega
          have hjN : (j : Int) < N := by have := HLL.out; have := HN.out; omega
          have hw1 : IntKind.i64.wrap ((m : Int) - 1) = j := by rw [show (m : Int) - 1 = j by omega]; exact IntWalk.i64_in _ (by have := HLL.out; omega)
          have hd0 : decide (0 < m) = true := by simp; omega
          have HMJ := Lib.hid hmj
          clear hy hless hsw hqq hmj
          by_cases hc : ltK x y
          · have HD := Lib.hid (decide_eq_true hc)
            have HC := Lib.hid hc
            clear hc
            go_wp2_with (fail)
            go_region_held3 (fun w' => w'.cell? ⟨gv, m * 2, none⟩ = some (.int .i64 x.acc) ∧ w'.cell? ⟨gv, m * 2 + 1, none⟩ = some (.int .i64 x.ast) ∧ w'.cell? ⟨gv, j * 2, none⟩ = some (.int .i64 y.acc) ∧ w'.cell? ⟨gv, j * 2 + 1, none⟩ = some (.int .i64 y.ast))
              (first | go_keep | fail)
              (first | (go_at_call 47; refine (HLS.out _).mono ?_; rintro e w3 ⟨rfl, hb3⟩; rw [HD.out]; have hB3 : Below wr.heap.size wr w3 := (Below.refl _ _).drew.trans hb3; have p03 := (Below.cell hB3 (World.block_lt_of_cell? wr _ p0)).trans p0; have p13 := (Below.cell hB3 (World.block_lt_of_cell? wr _ p1)).trans p1; have q03 := (Below.cell hB3 (World.block_lt_of_cell? wr _ q0)).trans q0; have q13 := (Below.cell hB3 (World.block_lt_of_cell? wr _ q1)).trans q1; have HB3 := Lib.hid hB3; clear hb3 hB3))
            have hr3 := own_but HOW.out (But.of_below HB3.out (fun _ => False)) (fun _ _ h => h)
            obtain ⟨bx, hbx⟩ : ∃ b, w3.heap.size = b := ⟨_, rfl⟩
            obtain ⟨W4, hW4⟩ : ∃ X, w3.alloc (.cells #[.int .i64 x.acc, .int .i64 x.ast] 33) = X := ⟨_, rfl⟩
            obtain ⟨W5, hW5⟩ : ∃ X, W4.setCell ⟨gv, m * 2, none⟩ (.int .i64 y.acc) = X := ⟨_, rfl⟩
            obtain ⟨W6, hW6⟩ : ∃ X, W5.setCell ⟨gv, m * 2 + 1, none⟩ (.int .i64 y.ast) = X := ⟨_, rfl⟩
            obtain ⟨W7, hW7⟩ : ∃ X, W6.setCell ⟨gv, j * 2, none⟩ (.int .i64 x.acc) = X := ⟨_, rfl⟩
            obtain ⟨W8, hW8⟩ : ∃ X, W7.setCell ⟨gv, j * 2 + 1, none⟩ (.int .i64 x.ast) = X := ⟨_, rfl⟩
            have hb34 : Below w3.heap.size w3 W4 := hW4 ▸ (Below.refl _ _).alloc (Nat.le_refl _) _
            have hr4 := own_but hr3 (But.of_below hb34 (fun _ => False)) (fun _ _ h => h)
            have hbk : Blk W4 bx 33 #[.int .i64 x.acc, .int .i64 x.ast] := hbx ▸ hW4 ▸ Blk.new w3 _ _
            have hmm : m < (mid l x m).length := by rw [HLEN.out]; omega
            have hjj : j < (mid l x m).length := by rw [HLEN.out]; omega
            have hgb : gv ≠ bx := by have h9 : gv < w3.heap.size := own_lt hr3 rfl; omega
            have hr5 := row_set Key.len hr4 hmm (r := 0) (.int .i64 y.acc) ⟨y.acc, (mid l x m)[m].ast⟩ (by decide) rfl
            have hr6 := key_put hr4 hmm y
            have hr7 := row_set Key.len hr6 (j := j) (by simpa using hjj) (r := 0) (.int .i64 x.acc) ⟨x.acc, (((mid l x m).set m y)[j]'(by simpa using hjj)).ast⟩ (by decide) rfl
            have hr8 := key_put hr6 (j := j) (by simpa using hjj) x
            simp only [Nat.add_zero] at hr5 hr7
            rw [hW5] at hr5 hr6
            rw [hW5, hW6] at hr7 hr8
            rw [hW6] at hr6
            rw [hW7] at hr7 hr8
            rw [hW8, HSW.out] at hr8
            have hlN : (mid l x m).length = N := by rw [HLEN.out, HLL.out, HN.out]
            obtain ⟨u1, s1⟩ := row_has hr4 (i := m * 2) (by omega)
            obtain ⟨u2, s2⟩ := row_has hr5 (i := m * 2 + 1) (by omega)
            obtain ⟨u3, s3⟩ := row_has hr6 (i := j * 2) (by omega)
            obtain ⟨u4, s4⟩ := row_has hr7 (i := j * 2 + 1) (by omega)
            have z1 : W4.frozen? ⟨gv, m * 2, none⟩ = false := row_frozen hr4 _
            have z2 : W5.frozen? ⟨gv, m * 2 + 1, none⟩ = false := row_frozen hr5 _
            have z3 : W6.frozen? ⟨gv, j * 2, none⟩ = false := row_frozen hr6 _
            have z4 : W7.frozen? ⟨gv, j * 2 + 1, none⟩ = false := row_frozen hr7 _
            have v0 : W4.cell? ⟨gv, j * 2, none⟩ = some (.int .i64 y.acc) := (Below.cell hb34 (World.block_lt_of_cell? w3 _ q03)).trans q03
            have v1 : W4.cell? ⟨gv, j * 2 + 1, none⟩ = some (.int .i64 y.ast) := (Below.cell hb34 (World.block_lt_of_cell? w3 _ q13)).trans q13
            have hb6 : Blk W6 bx 33 #[.int .i64 x.acc, .int .i64 x.ast] := hW6 ▸ hW5 ▸ (hbk.far (p := ⟨gv, m * 2, none⟩) hgb.symm _).far (p := ⟨gv, m * 2 + 1, none⟩) hgb.symm _
            have b0 : W6.cell? ⟨bx, 0, none⟩ = some (.int .i64 x.acc) := hb6.cell 0
            have b1 : W6.cell? ⟨bx, 1, none⟩ = some (.int .i64 x.ast) := hb6.cell 1
            have hBB : Below w.heap.size w W8 := by
              have hg : w.heap.size ≤ gv := own_base HOW.out rfl
              rw [← hW8, ← hW7, ← hW6, ← hW5]
              exact ((((HBEL.out.trans (HB3.out.mono HBEL.out.size)).trans (hb34.mono (Nat.le_trans HBEL.out.size HB3.out.size))).setCell (p := ⟨gv, m * 2, none⟩) hg _).setCell (p := ⟨gv, m * 2 + 1, none⟩) hg _ |>.setCell (p := ⟨gv, j * 2, none⟩) hg _).setCell (p := ⟨gv, j * 2 + 1, none⟩) hg _
            have HBB := Lib.hid hBB
            have HR8 := Lib.hid hr8
            clear hr3 hr4 hr5 hr6 hr7 hr8 hbk hb34 hb6 hBB hmm hjj hlN p0 p1 q0 q1 p03 p13
            rename World => W8
            go_wp2_with (fail)
            go_roundw
            case rel => exact ⟨j, by have := HLL.out; omega, by go_num, HR8.out, drop_above hjl (by rw [HY.out]; exact HC.out) (by rw [← HMJ.out]; exact HAB.out), HBB.out⟩
            case measure => simp [intOf]; have := HMJ.out; omega
          · have HD := Lib.hid (decide_eq_false hc)
            have HC := Lib.hid hc
            clear hc
            go_wp2_with (fail)
            go_region_held3 (fun w' => w'.cell? ⟨gv, m * 2, none⟩ = some (.int .i64 x.acc) ∧ w'.cell? ⟨gv, m * 2 + 1, none⟩ = some (.int .i64 x.ast) ∧ w'.cell? ⟨gv, j * 2, none⟩ = some (.int .i64 y.acc) ∧ w'.cell? ⟨gv, j * 2 + 1, none⟩ = some (.int .i64 y.ast))
              (first | go_keep | fail)
              (first | (go_at_call 47; refine (HLS.out _).mono ?_; rintro e w3 ⟨rfl, hb3⟩; rw [HD.out]; have hB3 : Below wr.heap.size wr w3 := (Below.refl _ _).drew.trans hb3; have p03 := (Below.cell hB3 (World.block_lt_of_cell? wr _ p0)).trans p0; have p13 := (Below.cell hB3 (World.block_lt_of_cell? wr _ p1)).trans p1; have q03 := (Below.cell hB3 (World.block_lt_of_cell? wr _ q0)).trans q0; have q13 := (Below.cell hB3 (World.block_lt_of_cell? wr _ q1)).trans q1; have HB3 := Lib.hid hB3; clear hb3 hB3))
            clear p0 p1 q0 q1 p03 p13 q03 q13 hw1
            go_wp2
            go_roundw
            case rel => exact ⟨i + 1, mid l x m, _, by omega, rfl, by go_num, by rw [HN.out]; exact own_but HOW.out (But.of_below HB3.out (fun _ => False)) (fun _ _ h => h), by rw [HLEN.out, HLL.out], (mid_perm l x m).trans HP2.out, mid_up HUP.out HAB.out (by rw [HMJ.out]; exact take_below HUP.out HNX.out hjl (by rw [HY.out]; exact HC.out)), HBEL.out.trans (HB3.out.mono HBEL.out.size)⟩
            case measure => simp [intOf]; omega
    · obtain rfl : i = r.rows.length := by omega
      rw [List.take_length] at hp
      have HP := Lib.hid hp
      have HUP := Lib.hid hup
      have HBEL := Lib.hid hbel
      have HOWN := Lib.hid hown
      have HLL := Lib.hid hll
      clear hp hup hbel hown hll
      go_wp2
      go_ret
      exact ⟨_, l, rfl, by rw [HLL.out]; exact HOWN.out, by unfold RS.rowsA; rw [List.map_map]; exact HP.out, HUP.out, HBEL.out⟩
end Go.Proofs.YtflkddllofeiaaaGreatDoor
