/- Chains of numbers and of things beside a row of texts: three lists of one list of steps; custodylaw10's counts by a contract. -/
import Derived.Test.YtmljiegeingpeaaDoorTold10
import Derived.Test.YtmljiegeingpeaaDoorScript
import Derived.Test.YtmljiegeingpeaaDoorOpenA
import Derived.BigQuiet
import Derived.ChangeKeysEq
import Derived.Laws.StructEq
namespace Go.Proofs.YtmljiegeingpeaaDoor
set_option linter.unusedSimpArgs false
set_option linter.unusedVariables false
open Go.RowKit

section
variable {V W : Type}
def mapV (f : V → W) (L : List (Ver V)) : List (Ver W) := L.map (fun x => ⟨x.n, f x.v⟩)
theorem mapV_len (f : V → W) (L : List (Ver V)) : (mapV f L).length = L.length := by simp [mapV]
theorem mapV_get (f : V → W) (L : List (Ver V)) {k : Nat} (hk : k < (mapV f L).length) : (mapV f L)[k] = ⟨(L[k]'(by simpa [mapV] using hk)).n, f (L[k]'(by simpa [mapV] using hk)).v⟩ := by simp [mapV]
theorem mapV_up (f : V → W) {L : List (Ver V)} (h : UpV L) : UpV (mapV f L) := by
  refine ⟨?_, ?_⟩
  · unfold mapV; rw [List.pairwise_map]; exact h.1
  · intro x hx
    obtain ⟨y, hy, rfl⟩ := List.mem_map.1 hx
    exact h.2 y hy
theorem mapV_leN (f : V → W) (L : List (Ver V)) (n : Int) : leN (mapV f L) n = leN L n := by
  unfold leN mapV
  rw [List.filter_map, List.length_map]
  rfl
theorem mapV_last (f : V → W) (L : List (Ver V)) : lastNo (mapV f L) = lastNo L := by
  unfold lastNo mapV
  rw [List.getLast?_map, Option.map_map]
  rfl
theorem mapV_may (f : V → W) (L : List (Ver V)) (n : Int) : mayPut (mapV f L) n = mayPut L n := by unfold mayPut; rw [mapV_last]
theorem mapV_putE (f : V → W) (L : List (Ver V)) (n : Int) : putE (mapV f L) n = putE L n := by unfold putE; rw [mapV_may]
theorem mapV_put (f : V → W) (L : List (Ver V)) (n : Int) (v : V) : putL (mapV f L) ⟨n, f v⟩ = mapV f (putL L ⟨n, v⟩) := by
  unfold putL
  show (if mayPut (mapV f L) n = true then _ else _) = _
  rw [mapV_may]
  split <;> simp [mapV]
theorem mapV_pruneN (f : V → W) (L : List (Ver V)) (n : Int) : pruneN (mapV f L) n = pruneN L n := by unfold pruneN; rw [mapV_leN]
theorem mapV_prune (f : V → W) (L : List (Ver V)) (n : Int) : pruneL (mapV f L) n = mapV f (pruneL L n) := by
  unfold pruneL
  rw [mapV_leN]
  split
  · rfl
  · simp [mapV]
end

/-- The thing of a step. -/
def thOf (l : List OpS) (j : Nat) : CT.Th := match l[j]? with
  | some x => ⟨x.on, x.n % 256, x.kd % 256⟩
  | none => ⟨0, 0, 0⟩
theorem thOf_at {l : List OpS} {j : Nat} (h : j < l.length) : thOf l j = ⟨l[j].on, l[j].n % 256, l[j].kd % 256⟩ := by unfold thOf; rw [List.getElem?_eq_getElem h]
def ofN (j : Nat) : Int := j

/-- Two chains and a row of one list of steps. -/
structure Tri (w : World) (B pa pb : Nat) (sa sb rv : Value) (S : List (Ver Nat)) (l : List OpS) : Prop where
  a : CI.Chn w pa sa (mapV ofN S)
  b : CT.Chn w pb sb (mapV (thOf l) S)
  r : RowR w rv (mapV toldB S)
  up : UpV S
  st : ∀ x ∈ S, x.v < l.length
  fa : ∀ i, OfC pa sa i → B ≤ i
  fb : ∀ i, OfC pb sb i → B ≤ i
section
variable {w w' : World} {B pa pb : Nat} {sa sb rv : Value} {S : List (Ver Nat)} {l : List OpS}
theorem Tri.below (h : Tri w B pa pb sa sb rv S l) (hb : Below w.heap.size w w') : Tri w' B pa pb sa sb rv S l :=
  ⟨h.a.below hb, h.b.below hb, rowR_below h.r hb, h.up, h.st, h.fa, h.fb⟩
theorem Tri.len (h : Tri w B pa pb sa sb rv S l) : S.length ≤ 5864062014805 := by have := h.a.len; rwa [mapV_len] at this
theorem atI (S : List (Ver Nat)) (n : Int) : CI.atV (mapV ofN S) n = if leN S n = 0 then 0 else (((S[leN S n - 1]?).map (fun x => (x.v : Int))).getD 0) := by
  unfold CI.atV
  rw [mapV_leN]
  split
  · rfl
  · unfold mapV ofN; rw [List.getElem?_map, Option.map_map]; rfl
theorem atT (S : List (Ver Nat)) (l : List OpS) (n : Int) : CT.atV (mapV (thOf l) S) n = if leN S n = 0 then ⟨0, 0, 0⟩ else (((S[leN S n - 1]?).map (fun x => thOf l x.v)).getD ⟨0, 0, 0⟩) := by
  unfold CT.atV
  rw [mapV_leN]
  split
  · rfl
  · unfold mapV; rw [List.getElem?_map, Option.map_map]; rfl
end

theorem eqTwo (d : Nat) (w : World) (a b : Int) : (Op.equalIn (d + 2) 43 (.agg #[.int .u8 a, .int .u8 b]) (.agg #[.int .u8 a, .int .u8 b])).run Tryd.prog w = .ok true w := by
  obtain ⟨i, hi⟩ := info_of_underlying Tryd.underlying5
  rw [run_equalIn_array w (d + 1) _ _ Tryd.underlying43 hi]
  have hr : List.range 2 = [0, 1] := rfl
  rw [hr]
  have hc : Tryd.prog.cellsOf 5 = 1 := by kernel_rfl
  simp only [Op.eqItems, Sem.run_bind, hc]
  go_simp
attribute [local go_sem high] eqTwo

set_option maxRecDepth 100000 in
set_option maxHeartbeats 4000000 in
theorem lawCounts_calls {B pa pb : Nat} {sa sb rv : Value} {S : List (Ver Nat)} (l : List OpS) (A : Option Addr) (c : Nat) (n : Int) (w : World) (h : Tri w B pa pb sa sb rv S l) (hr : Reads w w.heap.size 4 A l.length (opsC l)) (hlen : l.length < 5864062014805) :
    Calls Tryd.prog 25 #[.pointer (some ⟨pa, 0, none⟩), .pointer (some ⟨pb, 0, none⟩), rv, .slice A l.length c, .int .i64 n] w fun e w' => e = .returned (.bool true) ∧ Below w.heap.size w w' := by
  obtain ⟨RA, rc, rfl⟩ := own_slice h.r
  have hsl := h.len
  have HT := Lib.hid h
  have HL := Lib.hid hlen
  have HSL := Lib.hid hsl
  have HRD := Lib.hid hr
  rw [mapV_len]
  clear h hr hsl hlen
  go_enter Tryd.func25, Tryd.ntmps25
  go_wp2_with (fail)
  refine (CI.at_calls n w HT.out.a).mono ?_
  rintro e w1 ⟨rfl, hb1⟩
  rw [atI, mapV_leN]
  have HT1 := Lib.hid (HT.out.below hb1)
  have HB1 := Lib.hid hb1
  clear hb1
  by_cases hk : leN S n = 0
  · rw [if_pos hk, hk]
    go_wp2_with (fail)
    refine (CT.at_calls n w1 HT1.out.b).mono ?_
    rintro e w2 ⟨rfl, hb2⟩
    rw [atT, mapV_leN, if_pos hk, hk]
    have HT2 := Lib.hid (HT1.out.below hb2)
    have HB2 := Lib.hid (HB1.out.trans (hb2.mono HB1.out.size))
    obtain ⟨gy, hgy⟩ : ∃ g, w2.heap.size = g := ⟨_, rfl⟩
    obtain ⟨W3, hW3⟩ : ∃ X, w2.alloc (.cells #[.int .i64 0, .int .u8 0, .int .u8 0] 45) = X := ⟨_, rfl⟩
    have hb3 : Below w2.heap.size w2 W3 := hW3 ▸ (Below.refl _ _).alloc (Nat.le_refl _) _
    have hv : Blk W3 gy 45 #[.int .i64 0, .int .u8 0, .int .u8 0] := by rw [← hW3]; exact hgy ▸ Blk.new _ _ _
    have HV := Lib.hid hv
    have HT3 := Lib.hid (HT2.out.below hb3)
    have HB3 := Lib.hid (HB2.out.trans (hb3.mono HB2.out.size))
    have v0 : W3.cell? ⟨gy, 0, none⟩ = some (.int .i64 0) := hv.cell 0
    have v1 : W3.cell? ⟨gy, 1, none⟩ = some (.int .u8 0) := hv.cell 1
    have v2 : W3.cell? ⟨gy, 2, none⟩ = some (.int .u8 0) := hv.cell 2
    have z0 := hv.frozen 0
    have z1 := hv.frozen 1
    have z2 := hv.frozen 2
    have s0 := CT.setCell_same (v := .int .i64 0) (i := 0) hv rfl
    have s1 := CT.setCell_same (v := .int .u8 0) (i := 1) hv rfl
    have s2 := CT.setCell_same (v := .int .u8 0) (i := 2) hv rfl
    clear hb2 hb3 hv
    unfold CT.thV
    go_wp2_with (fail)
    have hrr := Reads.of_own HT3.out.r
    have hcc := counts_calls (mapV toldB S) (mapV_up _ HT3.out.up) RA rc n W3 hrr (by rw [mapV_len]; exact HSL.out)
    rw [mapV_len] at hcc
    refine hcc.mono ?_
    rintro e w4 ⟨rfl, hb4⟩
    rw [mapV_leN, hk]
    have HT4 := Lib.hid (HT3.out.below hb4)
    have HB4 := Lib.hid (HB3.out.trans (hb4.mono HB3.out.size))
    have HV4 := Lib.hid (HV.out.below hb4 HV.out.lt)
    clear v0 v1 v2 z0 z1 z2 s0 s1 s2 hrr hb4 hW3 hgy
    go_wp2_with (fail)
    refine (CI.len_calls w4 HT4.out.a).mono ?_
    rintro e w5 ⟨rfl, hw⟩
    rw [hw]
    clear hw w5
    rw [mapV_len]
    go_wp2_with (fail)
    refine (CT.len_calls w4 HT4.out.b).mono ?_
    rintro e w5 ⟨rfl, hw⟩
    rw [hw]
    clear hw w5
    rw [mapV_len]
    have v0 : w4.cell? ⟨gy, 0, none⟩ = some (.int .i64 0) := HV4.out.cell 0
    have v1 : w4.cell? ⟨gy, 1, none⟩ = some (.int .u8 0) := HV4.out.cell 1
    have v2 : w4.cell? ⟨gy, 2, none⟩ = some (.int .u8 0) := HV4.out.cell 2
    go_wp2_with (fail)
    go_ret
    exact ⟨rfl, HB4.out⟩
  · obtain ⟨m, hm⟩ : ∃ m, leN S n = m + 1 := ⟨leN S n - 1, by omega⟩
    have hml : m < S.length := by have := leN_le S n; omega
    have hj := HT1.out.st S[m] (by simp)
    have hgx : S[leN S n - 1]? = some S[m] := by rw [hm, Nat.add_sub_cancel, List.getElem?_eq_getElem hml]
    rw [if_neg hk, hgx]
    simp only [Option.map_some, Option.getD_some]
    have hd : decide (0 < leN S n) = true := by simp; omega
    rw [hd]
    obtain ⟨j, hjx⟩ : ∃ j, S[m].v = j := ⟨_, rfl⟩
    rw [hjx] at hj ⊢
    have hth := thOf_at hj
    obtain ⟨ad, rfl, hadb, o0, o1, o2, o3⟩ := ops_at HRD.out hj
    generalize l[j] = o at hth o0 o1 o2 o3
    have HTH := Lib.hid hth
    have HM := Lib.hid hm
    have HJ := Lib.hid hjx
    have HO0 := Lib.hid o0
    have HO1 := Lib.hid o1
    have HO2 := Lib.hid o2
    clear hth o0 o1 o2 o3 hjx hd hm hadb
    go_wp2_with (fail)
    refine (CT.at_calls n w1 HT1.out.b).mono ?_
    rintro e w2 ⟨rfl, hb2⟩
    rw [atT, mapV_leN, if_neg hk, hgx]
    simp only [Option.map_some, Option.getD_some]
    rw [HJ.out, HTH.out, show decide (0 < leN S n) = true by simp; omega]
    have HT2 := Lib.hid (HT1.out.below hb2)
    have HB2 := Lib.hid (HB1.out.trans (hb2.mono HB1.out.size))
    obtain ⟨gy, hgy⟩ : ∃ g, w2.heap.size = g := ⟨_, rfl⟩
    obtain ⟨W3, hW3⟩ : ∃ X, w2.alloc (.cells #[.int .i64 o.on, .int .u8 (o.n % 256), .int .u8 (o.kd % 256)] 45) = X := ⟨_, rfl⟩
    have hb3 : Below w2.heap.size w2 W3 := hW3 ▸ (Below.refl _ _).alloc (Nat.le_refl _) _
    have hv : Blk W3 gy 45 #[.int .i64 o.on, .int .u8 (o.n % 256), .int .u8 (o.kd % 256)] := by rw [← hW3]; exact hgy ▸ Blk.new _ _ _
    have HV := Lib.hid hv
    have HT3 := Lib.hid (HT2.out.below hb3)
    have HB3 := Lib.hid (HB2.out.trans (hb3.mono HB2.out.size))
    clear hb2 hb3 hv
    unfold CT.thV
    clear hk hgx
    go_wp2_with (fail)
    have hrr := Reads.of_own HT3.out.r
    have hcc := counts_calls (mapV toldB S) (mapV_up _ HT3.out.up) RA rc n W3 hrr (by rw [mapV_len]; exact HSL.out)
    rw [mapV_len] at hcc
    refine hcc.mono ?_
    rintro e w4 ⟨rfl, hb4⟩
    rw [mapV_leN, HM.out]
    have hmi : ((m + 1 : Nat) : Int) - 1 = m := by omega
    rw [hmi]
    have HT4 := Lib.hid (HT3.out.below hb4)
    have HB4 := Lib.hid (HB3.out.trans (hb4.mono HB3.out.size))
    have HV4 := Lib.hid (HV.out.below hb4 HV.out.lt)
    clear hrr hb4 hW3 hgy hmi hcc
    go_wp2_with (fail)
    refine (CI.len_calls w4 HT4.out.a).mono ?_
    rintro e w5 ⟨rfl, hw⟩
    rw [hw]
    clear hw w5
    rw [mapV_len]
    go_wp2_with (fail)
    refine (CT.len_calls w4 HT4.out.b).mono ?_
    rintro e w5 ⟨rfl, hw⟩
    rw [hw]
    clear hw w5
    rw [mapV_len]
    have hmli : (m : Int) < (S.length : Int) := by omega
    obtain ⟨bd, hbd, _, q0, q1⟩ := vers_at (Reads.of_own HT4.out.r) (k := m) (by rw [mapV_len]; exact hml)
    rw [mapV_get] at q1
    rw [HJ.out] at q1
    subst hbd
    clear q0
    have v0 : w4.cell? ⟨gy, 0, none⟩ = some (.int .i64 o.on) := HV4.out.cell 0
    have v1 : w4.cell? ⟨gy, 1, none⟩ = some (.int .u8 (o.n % 256)) := HV4.out.cell 1
    have v2 : w4.cell? ⟨gy, 2, none⟩ = some (.int .u8 (o.kd % 256)) := HV4.out.cell 2
    have o0 := cell_below HB4.out HO0.out
    have o1 := cell_below HB4.out HO1.out
    have o2 := cell_below HB4.out HO2.out
    have hji : (j : Int) < (l.length : Int) := by omega
    go_wp2_with (fail)
    refine (step8_calls j w4 (by have := HL.out; omega)).mono ?_
    rintro e w5 ⟨rfl, hw⟩
    rw [hw]
    clear hw w5
    go_wp2_with (fail)
    go_quiet (fail)
    go_wp2_with (fail)
    go_ret
    exact ⟨rfl, below_drewN HB4.out _⟩
end Go.Proofs.YtmljiegeingpeaaDoor
