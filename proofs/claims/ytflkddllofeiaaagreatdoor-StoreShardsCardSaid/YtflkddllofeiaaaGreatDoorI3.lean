/- Chains and stores of numbers, part 3 (printed by gen_storei.py). -/
import Derived.Test.YtflkddllofeiaaaGreatDoorI2
import Derived.Test.YtflkddllofeiaaaGreatDoorS10
import Derived.IntWalk
import Derived.Shelf.SlSortCmp.NoneTotal
import Derived.Sort.Grow
namespace Go.Proofs.YtflkddllofeiaaaGreatDoor
set_option linter.unusedVariables false
set_option linter.unusedSimpArgs false
set_option linter.unusedSectionVars false
namespace NI
open Go.RowKit Go.MapKept Go.ChangeMaps Go.Maps

section
variable {w w' : World} {s : StV}
/-- The readers turned. -/
theorem StAt.readers (h : StAt w s) {bg' : Nat} {R' : List (Int × Int)} (hb : But w w' (fun i => i = s.p ∨ i = s.mr)) (hblk : Blk w' s.p 87 #[.slice (some ⟨s.gs, 0, none⟩) s.n s.n, .map (some s.mr), .int .i64 bg'])
    (hrd : MapT eI eI w' s.mr R') (hrn : (R'.map (·.1)).Nodup) (hrk : ∀ q ∈ R', wfI q.1 ∧ 1 ≤ q.1 ∧ q.1 ≤ bg') : StAt w' { s with R := R', bg := bg' } := by
  have hn : ∀ {i : Nat}, i ≠ s.p → i ≠ s.mr → ¬ (i = s.p ∨ i = s.mr) := fun h1 h2 h => h.elim h1 h2
  exact ⟨hblk, h.row.but hb (hn (blk_ne2 h.row h.blk (by decide)) (blk_map_ne h.row h.rd)), h.n1, h.len, fun i h1 h2 => (h.maps i h1 h2).but hb (hn (fun e => blk_map_ne h.blk (h.maps i h1 h2) e.symm) (fun e => h.mrn (e ▸ List.getElem_mem h1))), h.msn,
    fun q hq => (h.chs q hq).but hb (fun i hi => hn (h.ch_ne hq hi).1 (h.ch_ne hq hi).2.2.1), h.shd, h.kn, h.apart, hrd, hrn, hrk, h.mrn⟩
end
structure TurnS (w w' : World) (s s' : StV) : Prop where
  at_ : StAt w' s'
  en : s'.n = s.n
  ep : s'.p = s.p
  erows : s'.rows = s.rows
  but : But w w' s.of
  new : ∀ i, s'.of i → s.of i ∨ w.heap.size ≤ i
def OpenSQ (w : World) (s : StV) (n : Int) (e : Ending) (w' : World) : Prop := ∃ s', e = .returned (.int .i64 ((s.bg : Int) + 1)) ∧ TurnS w w' s s' ∧ s'.R = s.R ++ [((s.bg : Int) + 1, n)] ∧ s'.bg = s.bg + 1
set_option maxRecDepth 100000 in
set_option maxHeartbeats 2000000 in
theorem openS_calls (s : StV) (n : Int) (w : World) (h : StAt w s) (hbg : s.bg < 4611686018427387904) : Calls Tryz.prog 59 #[.pointer (some ⟨s.p, 0, none⟩), .int .i64 n] w (OpenSQ w s n) := by
  have c2 : w.cell? ⟨s.p, 2, none⟩ = some (.int .i64 s.bg) := h.blk.cell 2
  have f2 : w.frozen? ⟨s.p, 2, none⟩ = false := h.blk.frozen 2
  have hw1 : IntKind.i64.wrap ((s.bg : Int) + 1) = (s.bg : Int) + 1 := IntWalk.i64_in _ (by omega)
  obtain ⟨W, hW⟩ : ∃ X, w.setCell ⟨s.p, 2, none⟩ (.int .i64 ((s.bg : Int) + 1)) = X := ⟨_, rfl⟩
  have hb1 : But w W (fun i => i = s.p) := hW ▸ (But.refl w (fun i => i = s.p)).setCell (p := ⟨s.p, 2, none⟩) (fun _ => rfl) _
  have hblk : Blk W s.p 87 #[.slice (some ⟨s.gs, 0, none⟩) s.n s.n, .map (some s.mr), .int .i64 ((s.bg : Int) + 1)] := hW ▸ h.blk.set_ 2 (.int .i64 ((s.bg : Int) + 1))
  have hrd : MapT eI eI W s.mr s.R := h.rd.but hb1 (fun e => blk_map_ne h.blk h.rd e.symm)
  obtain ⟨WD, hWD⟩ : ∃ X, W.drew = X := ⟨_, rfl⟩
  have hbD : Below W.heap.size W WD := hWD ▸ (Below.refl _ _).drew
  have hblkD := hblk.below hbD hblk.lt
  have hrdD := hrd.below hbD
  have d1 : WD.cell? ⟨s.p, 1, none⟩ = some (.map (some s.mr)) := hblkD.cell 1
  have d2 : WD.cell? ⟨s.p, 2, none⟩ = some (.int .i64 ((s.bg : Int) + 1)) := hblkD.cell 2
  have hnk : ∀ q ∈ s.R, q.1 ≠ (s.bg : Int) + 1 := fun q hq e => by have := (h.rdk q hq).2.2; omega
  obtain ⟨w5, hrun, hm5, hg5, _⟩ := hrdD.put (P := Tryz.prog) (keyE_int WD) (fun q hq => (h.rdk q hq).1) (x := (s.bg : Int) + 1) (wfI_of (by omega) (by omega)) Tryz.underlying56 n
  unfold eI at hrun
  have hb5 := grown_but hg5
  have hblk5 := hblkD.but hb5 (blk_map_ne hblkD hrdD)
  have e2 : w5.cell? ⟨s.p, 2, none⟩ = some (.int .i64 ((s.bg : Int) + 1)) := hblk5.cell 2
  rw [mput_none hnk] at hm5
  have hbt : But w w5 (fun i => i = s.p ∨ i = s.mr) := ((hb1.weak (fun _ _ h => .inl h)).trans (But.of_below hbD (fun i => i = s.p ∨ i = s.mr)) (fun _ _ h => h)).trans hb5 (fun _ _ h => .inr h)
  have hat := h.readers (bg' := s.bg + 1) hbt (by simpa using hblk5) hm5 (by
    rw [List.map_append, List.nodup_append]
    exact ⟨h.rdn, by simp, fun a ha b hb e => by
      obtain ⟨q, hq, rfl⟩ := List.mem_map.1 ha
      simp only [List.map_cons, List.map_nil, List.mem_singleton] at hb
      exact hnk q hq (e.trans hb)⟩) (fun q hq => by
    rcases List.mem_append.1 hq with hq | hq
    · have := h.rdk q hq; exact ⟨this.1, this.2.1, by omega⟩
    · rw [List.mem_singleton.1 hq]; exact ⟨wfI_of (by simp; omega) (by simp; omega), by simp; omega, by simp⟩)
  have hfin : OpenSQ w s n (.returned (.int .i64 ((s.bg : Int) + 1))) w5 := by
    refine ⟨_, rfl, ⟨hat, rfl, rfl, rfl, hbt.weak (fun i _ hi => ?_), fun i hi => .inl ?_⟩, rfl, rfl⟩
    · rcases hi with hi | hi
      · exact .inl hi
      · exact .inr (.inr (.inl hi))
    · exact hi
  have HF := Lib.hid hfin
  have HWD := Lib.hid hWD
  have HW := Lib.hid hW
  clear hb1 hblk hrd hbD hblkD hrdD hnk hm5 hg5 hb5 hblk5 hbt hat hfin hWD hW h
  go_enter Tryz.func59, Tryz.ntmps59
  go_wp2_with (fail)
  refine region_tail 9 (by kernel_rfl) (by kernel_rfl) ?_
  rw [HW.out, HWD.out]
  simp only [List.take_succ_cons, List.take_zero, List.drop_succ_cons, List.drop_zero]
  repeat still_step
  refine wpStill_nil ?_
  go_wp2
  go_ret
  exact HF.out
def CloseSQ (w : World) (s : StV) (r : Int) (e : Ending) (w' : World) : Prop := ∃ s', e = .returned (.bool (mget s.R r).isSome) ∧ TurnS w w' s s' ∧ s'.R = mdel s.R r ∧ s'.bg = s.bg
set_option maxRecDepth 100000 in
set_option maxHeartbeats 2000000 in
theorem closeS_calls (s : StV) (r : Int) (w : World) (h : StAt w s) (hr : wfI r) : Calls Tryz.prog 60 #[.pointer (some ⟨s.p, 0, none⟩), .int .i64 r] w (CloseSQ w s r) := by
  have c1 : w.cell? ⟨s.p, 1, none⟩ = some (.map (some s.mr)) := h.blk.cell 1
  have hlook := h.rd.look (P := Tryz.prog) (keyE_int w) (fun q hq => (h.rdk q hq).1) hr Tryz.underlying56 (z := .int .i64 0) (by kernel_rfl) true
  simp only [if_true] at hlook
  unfold eI at hlook
  obtain ⟨w5, hrun, hm5, hg5, _⟩ := h.rd.del (P := Tryz.prog) (keyE_int w) (fun q hq => (h.rdk q hq).1) hr Tryz.underlying56 0
  unfold eI at hrun
  have hb5 := grown_but hg5
  have hbt : But w w5 (fun i => i = s.p ∨ i = s.mr) := hb5.weak (fun _ _ h => .inr h)
  have hsub : ∀ q ∈ mdel s.R r, q ∈ s.R := fun q hq => (List.mem_filter.1 hq).1
  have hat := h.readers (bg' := s.bg) hbt (h.blk.but hb5 (blk_map_ne h.blk h.rd)) hm5 ((List.filter_sublist.map _).nodup h.rdn) (fun q hq => h.rdk q (hsub q hq))
  obtain ⟨b, hbb⟩ : ∃ b, (mget s.R r).isSome = b := ⟨_, rfl⟩
  obtain ⟨x, hxx⟩ : ∃ x, ((mget s.R r).map (fun n : Int => Value.int .i64 n)).getD (.int .i64 0) = x := ⟨_, rfl⟩
  have hfin : CloseSQ w s r (.returned (.bool b)) w5 := by
    refine ⟨_, by rw [hbb], ⟨hat, rfl, rfl, rfl, hbt.weak (fun i _ hi => ?_), fun i hi => .inl hi⟩, rfl, rfl⟩
    rcases hi with hi | hi
    · exact .inl hi
    · exact .inr (.inr (.inl hi))
  have hl2 : (Instr.lookup 56 (.map (some s.mr)) (.int .i64 r) true).run Tryz.prog w = .ok (.tuple #[x, .bool b]) w := by rw [hlook, ← hbb, ← hxx]; first | done | rfl
  have HF := Lib.hid hfin
  clear hlook hm5 hg5 hb5 hbt hsub hat hfin hbb hxx h hr
  go_enter Tryz.func60, Tryz.ntmps60
  go_wp2
  go_ret
  exact HF.out
set_option maxRecDepth 100000 in
set_option maxHeartbeats 2000000 in
theorem oldestS_calls (s : StV) (n : Int) (w : World) (h : StAt w s) : Calls Tryz.prog 61 #[.pointer (some ⟨s.p, 0, none⟩), .int .i64 n] w fun e w' => e = .returned (.int .i64 (minL n s.R)) ∧ Below w.heap.size w w' := by
  have c1 : w.cell? ⟨s.p, 1, none⟩ = some (.map (some s.mr)) := h.blk.cell 1
  obtain ⟨W2, hrange, hR, hb2, hs2⟩ := h.rd.range (P := Tryz.prog) Tryz.underlying56
  obtain ⟨r, hr⟩ : ∃ r, w.heap.size = r := ⟨_, rfl⟩
  rw [hr] at hrange hR
  have HR := Lib.hid hR
  have HB2 := Lib.hid hb2
  have HRR := Lib.hid hr
  clear hR hb2 hs2 hr h
  go_enter Tryz.func61, Tryz.ntmps61
  go_wp2_with (fail)
  go_loopw [1] (fun v wr => ∃ (m : Int) (done left : List (Int × Int)), v = .int .i64 m ∧ RngT eI eI wr s.mr r s.R left ∧ (done ++ left).Perm s.R ∧ m = minL n done ∧ Below w.heap.size w wr) (fun _ wr => wr.rangeLeft s.mr r)
  case atStart => exact ⟨n, [], _, rfl, HR.out, List.Perm.refl _, rfl, HB2.out⟩
  case round =>
    obtain ⟨m, done, left, rfl, hR, hp, hm, hb⟩ := hrel
    have hle := hR.left_eq
    rcases hR.next (P := Tryz.prog) 0 with ⟨rfl, hnext⟩ | ⟨a, x, y, c, W3, rfl, hnext, hR3, hg3, hs3, hent⟩
    · rw [List.append_nil] at hp
      rw [minL_perm hp] at hm
      have HM := Lib.hid hm
      have HB := Lib.hid hb
      clear hR hle hp hm hb
      go_wp2
      go_ret
      exact ⟨by rw [← HM.out]; rfl, HB.out⟩
    · unfold eI at hnext hent
      have hb3 : Below w.heap.size w W3 := hb.trans ((grown_but hg3).to_below (fun i hi => by rw [hi]; have := HRR.out; omega) hb.size)
      have hp2 : ((done ++ [(x, y)]) ++ (a ++ c)).Perm s.R := by
        refine List.Perm.trans ?_ hp
        rw [List.append_assoc]
        refine List.Perm.append_left done ?_
        show ((x, y) :: (a ++ c)).Perm _
        exact List.perm_middle.symm
      have hm2 : minL n (done ++ [(x, y)]) = min m y := by unfold minL; rw [List.foldl_append, hm]; rfl
      have HR3 := Lib.hid hR3
      have HB3 := Lib.hid hb3
      have HP2 := Lib.hid hp2
      have HM2 := Lib.hid hm2
      have HLE : Hid (wr.rangeLeft s.mr r = a.length + c.length + 1) := by show _ = _; rw [hle]; simp; omega
      clear hR hle hp hb hR3 hg3 hs3 hb3 hp2 hm2 hm
      by_cases hmy : m ≤ y
      · have hmin : min m y = m := by omega
        have HMIN := Lib.hid hmin
        clear hmin
        go_wp2_with (fail)
        go_roundw
        case rel => first | exact ⟨m, _, _, rfl, HR3.out, HP2.out, by rw [HM2.out, HMIN.out], HB3.out⟩ | exact ⟨min m y, _, _, rfl, HR3.out, HP2.out, HM2.out.symm, HB3.out⟩
        case measure => rw [HR3.out.left_eq, HLE.out]; simp
      · have hmin : min m y = y := by omega
        have HMIN := Lib.hid hmin
        have hmy2 : y ≤ m := by omega
        clear hmin
        go_wp2_with (fail)
        go_roundw
        case rel => first | exact ⟨y, _, _, rfl, HR3.out, HP2.out, by rw [HM2.out, HMIN.out], HB3.out⟩ | exact ⟨min m y, _, _, rfl, HR3.out, HP2.out, HM2.out.symm, HB3.out⟩
        case measure => rw [HR3.out.left_eq, HLE.out]; simp
/-- How many versions there are. -/
def lens (l : List (Key × Ch)) : Nat := (l.map (fun q => q.2.L.length)).sum
theorem lens_app (a b : List (Key × Ch)) : lens (a ++ b) = lens a + lens b := by unfold lens; simp
theorem lens_cons (q : Key × Ch) (l : List (Key × Ch)) : lens (q :: l) = q.2.L.length + lens l := by unfold lens; simp
def eC (c : Ch) : Value := eP c.p
theorem mapT_ch {w : World} {m : Nat} {l : List (Key × Ch)} (h : MapT eK eP w m (l.map (fun q => (q.1, q.2.p)))) : MapT eK eC w m l := by
  obtain ⟨es, clock, h1, h2, h3⟩ := h
  refine ⟨es, clock, h1, h2, ?_⟩
  rw [h3, List.map_map]
  rfl
set_option maxRecDepth 100000 in
set_option maxHeartbeats 2000000 in
theorem versionsS_calls (s : StV) (w : World) (h : StAt w s) (hv : lens s.chs ≤ 4611686018427387904) : Calls Tryz.prog 24 #[.pointer (some ⟨s.p, 0, none⟩)] w fun e w' => e = .returned (.int .i64 (lens s.chs)) ∧ Below w.heap.size w w' := by
  have c0 : w.cell? ⟨s.p, 0, none⟩ = some (.slice (some ⟨s.gs, 0, none⟩) s.n s.n) := h.blk.cell 0
  have H := Lib.hid h
  have hn := h.n1
  have hlen : s.S.length = s.n := h.len
  have HLEN := Lib.hid hlen
  clear h hlen
  go_enter Tryz.func24, Tryz.ntmps24
  go_wp2_with (fail)
  go_loopw [3, 13] (fun v i wr => ∃ k : Nat, k ≤ s.n ∧ i = .int .i64 k ∧ v = .int .i64 (lens (s.S.take k).flatten) ∧ Below w.heap.size w wr) (fun _ i _ => s.n - (intOf i).toNat)
  case atStart => exact ⟨0, by omega, rfl, rfl, Below.refl _ _⟩
  case round =>
    obtain ⟨k, hk, rfl, rfl, hb⟩ := hrel
    by_cases hlt : k < s.n
    · have hkl : (k : Int) < s.n := by omega
      have hks : k < s.S.length := by rw [HLEN.out]; exact hlt
      have hkm : k < s.ms.length := hlt
      have hw := H.out.below hb
      have cm : wr.cell? ⟨s.gs, k, none⟩ = some (.map (some s.ms[k])) := (hw.row.cell k).trans (by simp [eM, hkm])
      obtain ⟨W2, hrange, hR, hb2, hs2⟩ := (mapT_ch (hw.maps k hkm hks)).range (P := Tryz.prog) Tryz.underlying88
      obtain ⟨r, hr⟩ : ∃ r, wr.heap.size = r := ⟨_, rfl⟩
      obtain ⟨m, hm⟩ : ∃ m, s.ms[k] = m := ⟨_, rfl⟩
      rw [hm] at cm hrange hR
      rw [hr] at hrange hR
      have hT : (s.S.take (k + 1)).flatten = (s.S.take k).flatten ++ s.S[k] := by rw [List.take_succ_eq_append_getElem hks, List.flatten_append]; simp
      have hle1 : lens (s.S.take k).flatten + lens s.S[k] ≤ lens s.chs := by
        unfold StV.chs
        rw [flat_at hks, lens_app, lens_app]
        omega
      obtain ⟨A, hA⟩ : ∃ A, lens (s.S.take k).flatten = A := ⟨_, rfl⟩
      rw [hA] at hle1 ⊢
      have HT := Lib.hid hT
      have HA := Lib.hid hA
      have HR := Lib.hid hR
      have HB2 := Lib.hid (hb.trans (hb2.mono hb.size))
      have HRS : Hid (w.heap.size ≤ r) := by have := hb.size; show _ ≤ _; omega
      have HMEM : Hid (∀ q ∈ s.S[k], q ∈ s.chs) := fun q hq => H.out.mem_chs hks hq
      clear hw hb2 hs2 hr hm hT hA hR hb
      go_wp2_with (fail)
      go_loopw [3] (fun v wr => ∃ (N : Nat) (left : List (Key × Ch)), v = .int .i64 N ∧ RngT eK eC wr m r s.S[k] left ∧ (∀ q ∈ left, q ∈ s.S[k]) ∧ N + lens left = A + lens s.S[k] ∧ Below w.heap.size w wr) (fun _ wr => wr.rangeLeft m r)
      case atStart => exact ⟨A, _, rfl, HR.out, fun q hq => hq, rfl, HB2.out⟩
      case round =>
        obtain ⟨N, left, rfl, hR, hsub, hN, hb⟩ := hrel
        have hle := hR.left_eq
        rcases hR.next (P := Tryz.prog) 0 with ⟨rfl, hnext⟩ | ⟨a, x, y, c, W3, rfl, hnext, hR3, hg3, hs3, hent⟩
        · have hN2 : N = A + lens s.S[k] := by simpa [lens] using hN
          have HN := Lib.hid hN2
          have HB := Lib.hid hb
          clear hR hle hsub hN hb hN2
          go_wp2_with (fail)
          go_roundw
          case rel => exact ⟨k + 1, by omega, by go_num, by rw [HT.out, lens_app, HA.out, HN.out], HB.out⟩
          case measure => simp [intOf]; omega
        · unfold eK eC eP at hnext hent
          have hb3 : Below w.heap.size w W3 := hb.trans ((grown_but hg3).to_below (fun i hi => by rw [hi]; exact HRS.out) hb.size)
          have hx : (x, y) ∈ s.S[k] := hsub _ (by simp)
          have hch := (H.out.below hb3).chs _ (HMEM.out _ hx)
          rw [lens_app, lens_cons] at hN
          simp only at hch hN
          have hlc := len_calls W3 hch
          have hwr : IntKind.i64.wrap ((N : Int) + y.L.length) = (N : Int) + y.L.length := IntWalk.i64_in _ (by omega)
          have HN : Hid (N + y.L.length + lens (a ++ c) = A + lens s.S[k]) := by show _ = _; rw [lens_app]; omega
          have HSUB : Hid (∀ q ∈ a ++ c, q ∈ s.S[k]) := fun q hq => hsub q (by
            rcases List.mem_append.1 hq with h | h
            · exact List.mem_append_left _ h
            · exact List.mem_append_right _ (List.mem_cons_of_mem _ h))
          have HR3 := Lib.hid hR3
          have HB3 := Lib.hid hb3
          have HLC := Lib.hid hlc
          have HLE : Hid (wr.rangeLeft m r = a.length + c.length + 1) := by show _ = _; rw [hle]; simp; omega
          clear hR hle hsub hN hb hR3 hb3 hlc hg3 hs3 hch hx
          go_wp2_with (fail)
          refine HLC.out.mono ?_
          rintro e W3 ⟨rfl, rfl⟩
          go_wp2_with (fail)
          go_roundw
          case rel => exact ⟨N + y.L.length, _, by go_num, HR3.out, HSUB.out, HN.out, HB3.out⟩
          case measure => rw [HR3.out.left_eq, HLE.out]; simp
    · obtain rfl : k = s.n := by omega
      have hall : s.S.take s.n = s.S := by rw [← HLEN.out]; exact List.take_length
      rw [hall]
      have HB := Lib.hid hb
      clear hb hall
      go_wp2
      go_ret
      exact ⟨rfl, HB.out⟩
open Go.RowKit Go.MapKept Go.ChangeMaps Go.Maps

/-- The rows behind a pruning of a key's versions at m. -/
def prR (M : List (Key × List VerS)) (k : Key) (m : Int) : List (Key × List VerS) := if (mget M k).isSome then mput M k (pruneL (getR M k) m) else M
structure PruneS (w w' : World) (s s' : StV) (k : Key) (m : Int) : Prop where
  at_ : StAt w' s'
  en : s'.n = s.n
  ep : s'.p = s.p
  eR : s'.R = s.R
  ebg : s'.bg = s.bg
  erows : s'.rows = prR s.rows k m
  but : But w w' s.of
  new : ∀ i, s'.of i → s.of i ∨ w.heap.size ≤ i
def PruneSQ (w : World) (s : StV) (k : Key) (n : Int) (e : Ending) (w' : World) : Prop := ∃ s', e = .returned (.int .i64 (pruneN (getR s.rows k) (minL n s.R))) ∧ PruneS w w' s s' k (minL n s.R)
set_option maxRecDepth 100000 in
set_option maxHeartbeats 2000000 in
theorem pruneS_calls (s : StV) (k : Key) (n : Int) (w : World) (h : StAt w s) :
    Calls Tryz.prog 62 #[.pointer (some ⟨s.p, 0, none⟩), .agg #[.int .i64 k.acc, .int .i64 k.ast], .int .i64 n] w (PruneSQ w s k n) := by
  have hb0 : Below w.heap.size w (w.alloc (.cells #[.int .i64 k.acc, .int .i64 k.ast] 33)) := (Below.refl _ _).alloc (Nat.le_refl _) _
  have hB := Blk.new w 33 #[.int .i64 k.acc, .int .i64 k.ast]
  obtain ⟨W, hW⟩ : ∃ X, w.alloc (.cells #[.int .i64 k.acc, .int .i64 k.ast] 33) = X := ⟨_, rfl⟩
  obtain ⟨g, hg⟩ : ∃ g, w.heap.size = g := ⟨_, rfl⟩
  rw [hW] at hb0 hB
  have hd : Below W.heap.size W W.drew := (Below.refl _ _).drew
  have h1 := (h.below hb0).below hd
  rw [hg] at hB
  have q0 : W.cell? ⟨g, 0, none⟩ = some (.int .i64 k.acc) := hB.cell 0
  have q1 : W.cell? ⟨g, 1, none⟩ = some (.int .i64 k.ast) := hB.cell 1
  have hsh := shardS_calls s k W.drew h1
  obtain ⟨m, hm⟩ : ∃ m, s.map k = m := ⟨_, rfl⟩
  have hmap : ∀ w4, Below W.drew.heap.size W.drew w4 → StAt w4 s ∧ Below w.heap.size w w4 := fun w4 hb4 => ⟨h1.below hb4, hb0.trans ((hd.trans hb4).mono hb0.size)⟩
  have hold := fun w4 (hb4 : Below W.drew.heap.size W.drew w4) => oldestS_calls s n w4 (hmap w4 hb4).1
  obtain ⟨mn, hmn⟩ : ∃ mn, minL n s.R = mn := ⟨_, rfl⟩
  simp only [hmn] at hold
  have hpq : PruneSQ w s k n = fun e w' => ∃ s', e = .returned (.int .i64 (pruneN (getR s.rows k) mn)) ∧ PruneS w w' s s' k mn := by unfold PruneSQ; rw [hmn]
  rw [hpq]
  have HB0 := Lib.hid hb0
  have HMAP := Lib.hid hmap
  have HOLD := Lib.hid hold
  have HW := Lib.hid hW
  have HG := Lib.hid hg
  rw [hm] at hsh
  have HSH := Lib.hid hsh
  rcases h.cases k with ⟨a, c, b, P, Q, hs, hc, hf, hn1, hn2⟩ | ⟨P, Q, hc, hf, hn1, hn2⟩
  · have hlook : ∀ w4, Below W.drew.heap.size W.drew w4 → (Instr.lookup 88 (.map (some m)) (.agg #[.int .i64 k.acc, .int .i64 k.ast]) true).run Tryz.prog w4 = .ok (.tuple #[.pointer (some ⟨c.p, 0, none⟩), .bool true]) w4 := fun w4 hb4 => by
      have := (hmap w4 hb4).1.look_some hs hn1 true
      rw [hm] at this
      simpa using this
    have hmem : (k, c) ∈ s.chs := by rw [hc]; simp
    have hrows : s.rows = (P ++ (k, c) :: Q).map rowOf := by unfold StV.rows; rw [hc]
    have hget : getR s.rows k = c.L := by rw [hrows]; exact (rows_turned (c' := c) hn2).2
    have hsome : (mget s.rows k).isSome = true := by
      rw [hrows, List.map_append, List.map_cons, show rowOf (k, c) = (k, c.L) from rfl, mget_some (fun q hq => by
        obtain ⟨x, hx, rfl⟩ := List.mem_map.1 hq
        exact hn2 x (List.mem_append_left _ hx))]
      rfl
    have hfin : ∀ w5 w6 sv', StAt w5 s → Below w.heap.size w w5 → Chn w6 c.p sv' (pruneL c.L mn) → But w5 w6 (OfC c.p c.sv) → (∀ b, sv'.ownBlock = some b → c.sv.ownBlock = some b ∨ w5.heap.size ≤ b) → ∃ s', PruneS w w6 s s' k mn := by
      intro w5 w6 sv' h5 hb5 hch hb6 hnw
      have hnn : ∀ i, (Ch.mk c.p sv' (pruneL c.L mn)).of i → c.of i ∨ w5.heap.size ≤ i := fun i hi => by
        rcases hi with hi | hi
        · exact .inl (.inl hi)
        · exact (hnw i hi).imp (fun h => .inr h) (fun h => h)
      obtain ⟨t1, t2⟩ := h5.turned (c' := ⟨c.p, sv', pruneL c.L mn⟩) hs hc (hf _) hb6 rfl hch hnn
      refine ⟨_, t1, rfl, rfl, rfl, rfl, ?_, (But.of_below hb5 s.of).trans hb6 (fun i _ hi => .inr (.inr (.inr (.inr ⟨_, hmem, hi⟩)))), fun i hi => (t2 i hi).imp (fun h => h) (fun h => Nat.le_trans hb5.size h)⟩
      unfold prR
      rw [if_pos hsome, hget]
      unfold StV.rows StV.chs
      rw [hf, (rows_turned (c := c) (c' := ⟨c.p, sv', pruneL c.L mn⟩) hn2).1]
      have := hrows
      unfold StV.rows StV.chs at this
      rw [this]
    have hch : ∀ w4, StAt w4 s → Chn w4 c.p c.sv c.L := fun w4 h4 => h4.chs _ hmem
    have HLOOK := Lib.hid hlook
    have HCH := Lib.hid hch
    have HFIN := Lib.hid hfin
    rw [hget]
    clear hlook hch hsh hmem hget hs hc hf hn1 hn2 hmap hb0 hB hd h1 hW hg hm h hold hmn hpq hrows hsome hfin
    go_enter Tryz.func62, Tryz.ntmps62
    go_wp2_with (fail)
    rw [HW.out, HG.out]
    go_region_held3 (fun w' => w'.cell? ⟨g, 0, none⟩ = some (.int .i64 k.acc) ∧ w'.cell? ⟨g, 1, none⟩ = some (.int .i64 k.ast))
      (first | go_keep | fail)
      ((go_at_call 83; refine HSH.out.mono ?_; rintro e w4 ⟨rfl, hb4⟩; have r0 : w4.cell? ⟨g, 0, none⟩ = some (.int .i64 k.acc) := cell_below (w := W.drew) hb4 q0; have r1 : w4.cell? ⟨g, 1, none⟩ = some (.int .i64 k.ast) := cell_below (w := W.drew) hb4 q1; have hlk := HLOOK.out w4 hb4; have HB4 := Lib.hid hb4; clear hb4))
    clear hlk
    go_wp2_with (fail)
    refine (HOLD.out w4 HB4.out).mono ?_
    rintro e w5 ⟨rfl, hb5⟩
    have H5 := Lib.hid ((HMAP.out w4 HB4.out).1.below hb5)
    have HB5 := Lib.hid ((HMAP.out w4 HB4.out).2.trans (hb5.mono (HMAP.out w4 HB4.out).2.size))
    clear hb5
    have hpr := prune_calls mn w5 (HCH.out w5 H5.out)
    have HPR := Lib.hid hpr
    clear hpr
    go_wp2_with (fail)
    refine HPR.out.mono ?_
    rintro e w6 ⟨sv', rfl, hch, hb6, hnw⟩
    have hres := HFIN.out w5 w6 sv' H5.out HB5.out hch hb6 hnw
    have HRES := Lib.hid hres
    clear hres hch hb6 hnw
    go_wp2
    go_ret
    obtain ⟨s', h⟩ := HRES.out
    exact ⟨s', rfl, h⟩
  · have hlook : ∀ w4, Below W.drew.heap.size W.drew w4 → (Instr.lookup 88 (.map (some m)) (.agg #[.int .i64 k.acc, .int .i64 k.ast]) true).run Tryz.prog w4 = .ok (.tuple #[.pointer none, .bool false]) w4 := fun w4 hb4 => by
      have := (hmap w4 hb4).1.look_none hn1 true
      rw [hm] at this
      simpa using this
    have hrows : s.rows = (P ++ Q).map rowOf := by unfold StV.rows; rw [hc]
    have hget : getR s.rows k = [] := by rw [hrows]; exact (rows_none (c' := ⟨0, .slice none 0 0, []⟩) hn2).2
    have hnone : (mget s.rows k).isSome = false := by
      rw [hrows, mget_none (fun q hq => by
        obtain ⟨x, hx, rfl⟩ := List.mem_map.1 hq
        exact hn2 x hx)]
      rfl
    rw [hget, show pruneN ([] : List VerS) mn = 0 from rfl]
    have hfin : ∀ w4, Below W.drew.heap.size W.drew w4 → ∃ s', PruneS w w4 s s' k mn := fun w4 hb4 =>
      ⟨s, (hmap w4 hb4).1, rfl, rfl, rfl, rfl, by unfold prR; rw [if_neg (by rw [hnone]; decide)], But.of_below (hmap w4 hb4).2 _, fun i hi => .inl hi⟩
    have HLOOK := Lib.hid hlook
    have HFIN := Lib.hid hfin
    clear hlook hsh hget hc hf hn1 hn2 hmap hb0 hB hd h1 hW hg hm h hold hmn hpq hrows hnone hfin
    go_enter Tryz.func62, Tryz.ntmps62
    go_wp2_with (fail)
    rw [HW.out, HG.out]
    go_region_held3 (fun w' => w'.cell? ⟨g, 0, none⟩ = some (.int .i64 k.acc) ∧ w'.cell? ⟨g, 1, none⟩ = some (.int .i64 k.ast))
      (first | go_keep | fail)
      ((go_at_call 83; refine HSH.out.mono ?_; rintro e w4 ⟨rfl, hb4⟩; have r0 : w4.cell? ⟨g, 0, none⟩ = some (.int .i64 k.acc) := cell_below (w := W.drew) hb4 q0; have r1 : w4.cell? ⟨g, 1, none⟩ = some (.int .i64 k.ast) := cell_below (w := W.drew) hb4 q1; have hlk := HLOOK.out w4 hb4; have HB4 := Lib.hid hb4; clear hb4))
    clear hlk
    go_wp2
    go_ret
    obtain ⟨s', h⟩ := HFIN.out w4 HB4.out
    exact ⟨s', rfl, h⟩
open Go.RowKit Go.MapKept Go.ChangeMaps Go.Maps

set_option maxRecDepth 100000 in
set_option maxHeartbeats 1000000 in
theorem keyCmp_calls (x y : Key) (W : World) : Calls Tryz.prog 55 #[.agg #[.int .i64 x.acc, .int .i64 x.ast], .agg #[.int .i64 y.acc, .int .i64 y.ast]] W
    fun e w' => e = .returned (.int .i64 (cmpK x y)) ∧ ∃ q os', w' = Go.Sort.grow (W.drewN q) os' := by
  have hbx := Blk.new W 33 #[.int .i64 x.acc, .int .i64 x.ast]
  have hby := Blk.new (W.alloc (.cells #[.int .i64 x.acc, .int .i64 x.ast] 33)) 33 #[.int .i64 y.acc, .int .i64 y.ast]
  obtain ⟨V, hV⟩ : ∃ X, (W.alloc (.cells #[.int .i64 x.acc, .int .i64 x.ast] 33)).alloc (.cells #[.int .i64 y.acc, .int .i64 y.ast] 33) = X := ⟨_, rfl⟩
  have hbx2 : Blk V W.heap.size 33 #[.int .i64 x.acc, .int .i64 x.ast] := hV ▸ hbx.below ((Below.refl _ _).alloc (Nat.le_refl _) _) hbx.lt
  have hs : (W.alloc (.cells #[.int .i64 x.acc, .int .i64 x.ast] 33)).heap.size = W.heap.size + 1 := by simp
  rw [hs, hV] at hby
  obtain ⟨g, hg⟩ : ∃ g, W.heap.size = g := ⟨_, rfl⟩
  rw [hg] at hbx2 hby
  have x0 : V.cell? ⟨g, 0, none⟩ = some (.int .i64 x.acc) := hbx2.cell 0
  have x1 : V.cell? ⟨g, 1, none⟩ = some (.int .i64 x.ast) := hbx2.cell 1
  have y0 : V.cell? ⟨g + 1, 0, none⟩ = some (.int .i64 y.acc) := hby.cell 0
  have y1 : V.cell? ⟨g + 1, 1, none⟩ = some (.int .i64 y.ast) := hby.cell 1
  have hcmp : ∀ a b n, Calls Tryz.prog 46 #[.int .i64 a, .int .i64 b] (V.drewN n) fun e w'' => e = .returned (.int .i64 (cmpI a b)) ∧ ∃ m, w'' = V.drewN m := fun a b n => (compare_calls a b _).mono (fun _ _ h => ⟨h.1, n, h.2⟩)
  obtain ⟨c1, hc1⟩ : ∃ c, cmpI x.acc y.acc = c := ⟨_, rfl⟩
  obtain ⟨c2, hc2⟩ : ∃ c, cmpI x.ast y.ast = c := ⟨_, rfl⟩
  have hk : cmpK x y = if c1 = 0 then c2 else c1 := by unfold cmpK; rw [hc1, hc2]
  have hcA := fun n => hcmp x.acc y.acc n
  have hcB := fun n => hcmp x.ast y.ast n
  simp only [hc1] at hcA
  simp only [hc2] at hcB
  have hor : ∀ n, Calls Tryz.prog 45 #[.slice (some ⟨(V.drewN n).heap.size, 0, none⟩) 2 2] ((V.drewN n).alloc (.cells #[.int .i64 c1, .int .i64 c2] 3)) fun e w' => e = .returned (.int .i64 (if c1 = 0 then c2 else c1)) ∧ w' = (V.drewN n).alloc (.cells #[.int .i64 c1, .int .i64 c2] 3) := fun n => by
    have hb := Blk.new (V.drewN n) 3 #[.int .i64 c1, .int .i64 c2]
    exact or2_calls c1 c2 _ 2 _ (hb.cell 0) (hb.cell 1)
  rw [← hk] at hor
  obtain ⟨r, hr⟩ : ∃ r, cmpK x y = r := ⟨_, rfl⟩
  rw [hr]
  simp only [hr] at hor
  have hfin : ∀ n, ∃ q os', (V.drewN n).alloc (.cells #[.int .i64 c1, .int .i64 c2] 3) = Go.Sort.grow (W.drewN q) os' := fun n => ⟨n, _, by rw [← hV]; exact grow3 W n _ _ _⟩
  have HCA := Lib.hid hcA
  have HCB := Lib.hid hcB
  have HOR := Lib.hid hor
  have HF := Lib.hid hfin
  have HV := Lib.hid hV
  have HG := Lib.hid hg
  clear hbx hby hbx2 hs hcmp hc1 hc2 hk hcA hcB hor hr hfin hV hg
  go_enter Tryz.func55, Tryz.ntmps55
  go_wp2_with (fail)
  rw [HV.out, HG.out]
  refine region_dtail 10 (by kernel_rfl) (by kernel_rfl) ?_
  simp only [List.take_succ_cons, List.take_zero, List.drop_succ_cons, List.drop_zero]
  repeat go_big_quiet_step ((go_at_call 46; first | (with_reducible exact HCA.out _) | (with_reducible exact HCB.out _)))
  refine wpQuiet_nil ?_
  rintro _ ⟨nq, rfl⟩
  go_wp2_with (fail)
  refine (HOR.out nq).mono ?_
  rintro e w' ⟨rfl, rfl⟩
  go_wp2
  go_ret
  exact ⟨rfl, HF.out nq⟩
open Go.RowKit Go.MapKept Go.ChangeMaps Go.Maps Go.Sort

instance : Inhabited Key := ⟨⟨0, 0⟩⟩
theorem sort_some (l : List Key) (base g c : Nat) (w : World) (h : w.ownsRow base 33 2 (.slice (some ⟨g, 0, none⟩) l.length c) l.length (keysC l)) (hl : l.length < 4611686018427387904) :
    Calls Tryz.prog 43 #[.slice (some ⟨g, 0, none⟩) l.length c, .func (.func 55) #[] #[]] w
      fun e w' => e = .returned (.tuple #[]) ∧ w'.ownsRow base 33 2 (.slice (some ⟨g, 0, none⟩) l.length c) l.length (keysC (srtK l)) ∧ But w w' (fun i => i = g) := by
  have hk : ∀ x : Key, x.cs.length = 2 := fun _ => rfl
  have hg : g < w.heap.size := own_lt h rfl
  have eg : ∀ args w, (callFunc 55 args).run Tryz.prog w = .ok (.enter 55 args) w := enters_of Tryz.func55 (by kernel_rfl) rfl
  have hcon := Go.Proofs.AnyQ.slices_SortFunc_total sortKeys 2 key_isAgg key_size Key.cs hk keyCs_one cmpK ltK_swo 55 #[] g 0 c l.toArray w eg (fun _ _ _ _ x y => keyCmp_calls x y _) (own_holds hk h) hg (by simpa using hl) ltK_total
  rw [show l.toArray.size = l.length by simp] at hcon
  refine Calls.mono (show Calls Tryz.prog 43 _ _ _ from hcon) ?_
  rintro e w' ⟨he, n, os, hw⟩
  obtain ⟨h1, h2, h3, h4, h5, h6⟩ := own_sorted (w' := w') hk keyCs_one h (srtK_len l) (n := n) (os := os) (by rw [hw]; rfl)
  rw [srtK_len] at h1
  exact ⟨he, h1, ⟨h2, h3, h4, h5, h6⟩⟩
open Go.RowKit Go.MapKept Go.ChangeMaps Go.Maps

def KeysSQ (w : World) (s : StV) (e : Ending) (w' : World) : Prop :=
  ∃ v l, e = .returned v ∧ w'.ownsRow w.heap.size 33 2 v l.length (keysC l) ∧ l.Perm (s.rows.map (·.1)) ∧ l.Pairwise ltK ∧ Below w.heap.size w w'
theorem rows_keys (s : StV) : s.rows.map (·.1) = s.chs.map (·.1) := by unfold StV.rows; rw [List.map_map]; rfl
set_option maxRecDepth 100000 in
set_option maxHeartbeats 2000000 in
theorem keysS_calls (s : StV) (w : World) (h : StAt w s) (hv : s.chs.length ≤ 7000000000000) : Calls Tryz.prog 22 #[.pointer (some ⟨s.p, 0, none⟩)] w (KeysSQ w s) := by
  obtain ⟨i0, hi0, hz0, hz1, hz2⟩ := info_parts infoKeyS
  have c0 : w.cell? ⟨s.p, 0, none⟩ = some (.slice (some ⟨s.gs, 0, none⟩) s.n s.n) := h.blk.cell 0
  have H := Lib.hid h
  have hn := h.n1
  have hlen : s.S.length = s.n := h.len
  have HLEN := Lib.hid hlen
  clear h hlen
  go_enter Tryz.func22, Tryz.ntmps22
  go_wp2_with (fail)
  go_loopw [3, 12] (fun v i wr => ∃ (k : Nat) (l : List Key), k ≤ s.n ∧ i = .int .i64 k ∧ wr.ownsRow w.heap.size 33 2 v l.length (keysC l) ∧ l.Perm ((s.S.take k).flatten.map (·.1)) ∧ Below w.heap.size w wr) (fun _ i _ => s.n - (intOf i).toNat)
  case atStart => exact ⟨0, [], by omega, rfl, World.ownsRow_nil _ _ _ _, List.Perm.refl _, Below.refl _ _⟩
  case round =>
    obtain ⟨k, l, hk, rfl, hown, hperm, hb⟩ := hrel
    by_cases hlt : k < s.n
    · have hkl : (k : Int) < s.n := by omega
      have hks : k < s.S.length := by rw [HLEN.out]; exact hlt
      have hkm : k < s.ms.length := hlt
      have hw := H.out.below hb
      have cm : wr.cell? ⟨s.gs, k, none⟩ = some (.map (some s.ms[k])) := (hw.row.cell k).trans (by simp [eM, hkm])
      obtain ⟨W2, hrange, hR, hb2, hs2⟩ := (mapT_ch (hw.maps k hkm hks)).range (P := Tryz.prog) Tryz.underlying88
      have hmo : s.ms[k] < w.heap.size := (H.out.maps k hkm hks).lt
      obtain ⟨r, hr⟩ : ∃ r, wr.heap.size = r := ⟨_, rfl⟩
      obtain ⟨m, hm⟩ : ∃ m, s.ms[k] = m := ⟨_, rfl⟩
      rw [hm] at cm hrange hR hmo
      rw [hr] at hrange hR
      have hT : (s.S.take (k + 1)).flatten.map (·.1) = (s.S.take k).flatten.map (·.1) ++ s.S[k].map (·.1) := by rw [List.take_succ_eq_append_getElem hks, List.flatten_append]; simp
      have hle1 : ((s.S.take k).flatten.map (·.1)).length + (s.S[k].map (·.1)).length ≤ s.chs.length := by
        unfold StV.chs
        rw [flat_at hks]
        simp only [List.length_append, List.length_map]
        omega
      have hown2 := own_but hown (But.of_below hb2 (fun _ => False)) (fun _ _ h => h)
      obtain ⟨A, hA⟩ : ∃ A, (s.S.take k).flatten.map (·.1) = A := ⟨_, rfl⟩
      rw [hA] at hle1 hperm hT
      have HT := Lib.hid hT
      have HR := Lib.hid hR
      have HB2 := Lib.hid (hb.trans (hb2.mono hb.size))
      have HO2 := Lib.hid hown2
      have HRS : Hid (w.heap.size ≤ r) := by have := hb.size; show _ ≤ _; omega
      have HPM := Lib.hid hperm
      clear hw hb2 hs2 hr hm hT hA hR hb hown hown2 hperm
      go_wp2_with (fail)
      go_loopw [3] (fun v wr => ∃ (l2 : List Key) (left : List (Key × Ch)), RngT eK eC wr m r s.S[k] left ∧ (l2 ++ left.map (·.1)).Perm (A ++ s.S[k].map (·.1)) ∧ wr.ownsRow w.heap.size 33 2 v l2.length (keysC l2) ∧ Below w.heap.size w wr) (fun _ wr => wr.rangeLeft m r)
      case atStart => exact ⟨l, _, HR.out, HPM.out.append_right _, HO2.out, HB2.out⟩
      case round =>
        obtain ⟨l2, left, hR, hp, hown, hb⟩ := hrel
        have hle := hR.left_eq
        rcases hR.next (P := Tryz.prog) 0 with ⟨rfl, hnext⟩ | ⟨a, x, y, c, W3, rfl, hnext, hR3, hg3, hs3, hent⟩
        · rw [List.map_nil, List.append_nil, ← HT.out] at hp
          have HP := Lib.hid hp
          have HO := Lib.hid hown
          have HB := Lib.hid hb
          clear hR hle hp hb hown
          go_wp2_with (fail)
          go_roundw
          case rel => exact ⟨k + 1, l2, by omega, by go_num, HO.out, HP.out, HB.out⟩
          case measure => simp [intOf]; omega
        · unfold eK eC eP at hnext hent
          have hb3 : Below w.heap.size w W3 := hb.trans ((grown_but hg3).to_below (fun i hi => by rw [hi]; exact HRS.out) hb.size)
          have hown3 := own_but hown (grown_but hg3) (fun b hb' e => own_iter_ne hown hR (e ▸ hb'))
          have hlen2 : l2.length + 1 ≤ s.chs.length := by
            have := hp.length_eq
            simp only [List.length_append, List.length_map, List.length_cons] at this hle1
            omega
          have hp2 : ((l2 ++ [x]) ++ (a ++ c).map (·.1)).Perm (A ++ s.S[k].map (·.1)) := by
            refine List.Perm.trans ?_ hp
            rw [List.append_assoc, List.map_append, List.map_append, List.map_cons]
            refine List.Perm.append_left l2 ?_
            show (x :: (a.map (·.1) ++ c.map (·.1))).Perm _
            exact List.perm_middle.symm
          obtain ⟨VA, vc, rfl⟩ := own_slice hown3
          have hstep : ∀ (o1 o2 : Obj) (v5 : Value) (w5 : World), ((W3.alloc o1).alloc o2).grownBy w5 (Value.slice VA l2.length vc).ownBlock → w5.ownsRow w.heap.size 33 2 v5 (l2.length + 1) (keysC l2 ++ [.int .i64 x.acc, .int .i64 x.ast]) →
              RngT eK eC w5 m r s.S[k] (a ++ c) ∧ w5.ownsRow w.heap.size 33 2 v5 (l2 ++ [x]).length (keysC (l2 ++ [x])) ∧ Below w.heap.size w w5 := fun o1 o2 v5 w5 hg5 ho5 => by
            have hb5 : But W3 w5 (fun i => (Value.slice VA l2.length vc).ownBlock = some i) := (((But.refl W3 _).alloc o1).alloc o2).grown hg5 (fun i _ e => e)
            refine ⟨hR3.but hb5 (fun e => ?_) (fun e => own_iter_ne hown3 hR3 e), ?_, hb3.trans (hb5.to_below (fun i e => own_base hown3 e) hb3.size)⟩
            · have := own_base hown3 e; omega
            · rw [List.length_append, keysC, List.flatMap_append]
              exact ho5
          have HST := Lib.hid hstep
          have HB3 := Lib.hid hb3
          have HO3 := Lib.hid hown3
          have HP2 := Lib.hid hp2
          have HLE : Hid (wr.rangeLeft m r = a.length + c.length + 1) := by show _ = _; rw [hle]; simp; omega
          clear hR hle hp hb hR3 hb3 hg3 hs3 hown hown3 hp2 hstep
          go_wp2_with ((at_builtin; refine wpList_append_wide_at _ rfl (.tmp 22) (.tmp 24) 40 rfl w.heap.size 33 i0 _ 2 16 Tryz.underlying40 hi0 hz0 hz1 hz2 rfl (by decide) (.slice VA l2.length vc) l2.length (keysC l2) rfl ((HO3.out.alloc _).alloc _) ⟨W3.heap.size + 1, 0, none⟩ 1 1 [.int .i64 x.acc, .int .i64 x.ast] rfl rfl ?_ ?_ ?_ ?_ ?_ ?_); (have hnc := new_cells (W3.alloc (.cells #[.int .i64 x.acc, .int .i64 x.ast] 33)) 33 [.int .i64 x.acc, .int .i64 x.ast]; rw [show (W3.alloc (.cells #[.int .i64 x.acc, .int .i64 x.ast] 33)).heap.size = W3.heap.size + 1 by simp] at hnc; exact hnc); (simp [Value.oneCell']); (unfold maxLen; omega); (omega); (have := HB3.out.size; simp; omega); intro v5 w5 hown5 hg5 _ _; have H5 := Lib.hid (HST.out _ _ v5 w5 hg5 hown5); clear hown5 hg5)
          go_roundw
          case rel => exact ⟨l2 ++ [x], _, H5.out.1, HP2.out, H5.out.2.1, H5.out.2.2⟩
          case measure => rw [H5.out.1.left_eq, HLE.out]; simp
    · obtain rfl : k = s.n := by omega
      have hall : s.S.take s.n = s.S := by rw [← HLEN.out]; exact List.take_length
      rw [hall] at hperm
      have hch : l.Perm (s.rows.map (·.1)) := by rw [rows_keys]; exact hperm
      have hnd : l.Nodup := by
        rw [hperm.nodup_iff]
        exact H.out.kn
      have hll : l.length ≤ 7000000000000 := by
        have := hperm.length_eq
        simp only [List.length_map] at this
        unfold StV.chs at hv
        omega
      obtain ⟨VA, vc, rfl⟩ := own_slice hown
      cases VA with
      | none =>
        obtain ⟨h0, rfl⟩ := own_none hown
        obtain rfl : l = [] := List.eq_nil_of_length_eq_zero h0
        have hfin : KeysSQ w s (.returned (.slice none 0 0)) wr := ⟨_, [], rfl, hown, hch, List.Pairwise.nil, hb⟩
        have HFIN := Lib.hid hfin
        have hso := sort_none none 0 (.func (.func 55) #[] #[]) wr
        have HSO := Lib.hid hso
        clear hown hperm hb hall hch hnd hfin hso
        go_wp2_with (fail)
        refine HSO.out.mono ?_
        rintro e wr ⟨rfl, rfl⟩
        go_wp2
        go_ret
        exact HFIN.out
      | some ad =>
        obtain ⟨g, rfl⟩ := own_block hown
        have hso := sort_some l w.heap.size g vc wr hown (by omega)
        have hfin : ∀ w5, w5.ownsRow w.heap.size 33 2 (.slice (some ⟨g, 0, none⟩) l.length vc) l.length (keysC (srtK l)) → But wr w5 (fun i => i = g) → KeysSQ w s (.returned (.slice (some ⟨g, 0, none⟩) l.length vc)) w5 := fun w5 ho hb5 =>
          ⟨_, srtK l, rfl, by rw [srtK_len]; exact ho, (srtK_perm l).trans hch, srtK_up hnd, hb.trans (hb5.to_below (fun i e => e ▸ own_base hown rfl) hb.size)⟩
        have HFIN := Lib.hid hfin
        have HSO := Lib.hid hso
        clear hown hperm hb hall hch hnd hfin hso
        go_wp2_with (fail)
        refine HSO.out.mono ?_
        rintro e w5 ⟨rfl, ho, hb5⟩
        have HF := Lib.hid (HFIN.out w5 ho hb5)
        clear ho hb5
        go_wp2
        go_ret
        exact HF.out
end NI
end Go.Proofs.YtflkddllofeiaaaGreatDoor
