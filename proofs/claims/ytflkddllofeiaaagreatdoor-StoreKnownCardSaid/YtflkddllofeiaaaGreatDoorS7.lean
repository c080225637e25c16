/- Store: readers; Versions; Prune. -/
import Derived.Test.YtflkddllofeiaaaGreatDoorS5
import Derived.IntWalk
namespace Go.Proofs.YtflkddllofeiaaaGreatDoor
set_option linter.unusedSimpArgs false
set_option linter.unusedVariables false
open Go.RowKit Go.MapKept Go.ChangeMaps Go.Maps

theorem wfI_of {n : Int} (h1 : -9223372036854775808 ≤ n) (h2 : n ≤ 9223372036854775807) : wfI n := by
  unfold wfI Lit.wf
  have : IntKind.i64.min = -9223372036854775808 := rfl
  simp
  exact ⟨by omega, h2⟩
theorem RngT.left_eq {K V : Type} {ek : K → Value} {ev : V → Value} {w : World} {b r : Nat} {M Lf : List (K × V)} (h : RngT ek ev w b r M Lf) : w.rangeLeft b r = Lf.length := by
  obtain ⟨es, clock, since, seen, c0, h1, _, _, h4, _, _, _, h8⟩ := h
  simp only [World.rangeLeft, h1, h4]
  have := congrArg List.length h8
  simpa using this
section
variable {w w' : World} {s : StV}
/-- The readers turned. -/
theorem StAt.readers (h : StAt w s) {bg' : Nat} {R' : List (Int × Int)} (hb : But w w' (fun i => i = s.p ∨ i = s.mr)) (hblk : Blk w' s.p 58 #[.slice (some ⟨s.gs, 0, none⟩) s.n s.n, .map (some s.mr), .int .i64 bg'])
    (hrd : MapT eI eI w' s.mr R') (hrn : (R'.map (·.1)).Nodup) (hrk : ∀ q ∈ R', wfI q.1 ∧ 1 ≤ q.1 ∧ q.1 ≤ bg') : StAt w' { s with R := R', bg := bg' } := by
  have hn : ∀ {i : Nat}, i ≠ s.p → i ≠ s.mr → ¬ (i = s.p ∨ i = s.mr) := fun h1 h2 h => h.elim h1 h2
  exact ⟨hblk, h.row.but hb (hn (blk_ne2 h.row h.blk (by decide)) (blk_map_ne h.row h.rd)), h.n1, h.len, fun i h1 h2 => (h.maps i h1 h2).but hb (hn (fun e => blk_map_ne h.blk (h.maps i h1 h2) e.symm) (fun e => h.mrn (e ▸ List.getElem_mem h1))), h.msn,
    fun q hq => (h.chs q hq).but hb (fun i hi => hn (h.ch_ne hq hi).1 (h.ch_ne hq hi).2.2.1), h.shd, h.kn, h.apart, hrd, hrn, hrk, h.mrn⟩
end
/-- The readers behind an Open, a Close; the least number that is read. -/
def minL (n : Int) (R : List (Int × Int)) : Int := R.foldl (fun a q => min a q.2) n
theorem minL_perm {R R' : List (Int × Int)} (h : R.Perm R') (n : Int) : minL n R = minL n R' := by
  unfold minL
  refine h.foldl_eq' (fun x _ y _ z => ?_) n
  omega
structure TurnS (w w' : World) (s s' : StV) : Prop where
  at_ : StAt w' s'
  en : s'.n = s.n
  ep : s'.p = s.p
  erows : s'.rows = s.rows
  but : But w w' s.of
  new : ∀ i, s'.of i → s.of i ∨ w.heap.size ≤ i
def OpenSQ (w : World) (s : StV) (n : Int) (e : Ending) (w' : World) : Prop := ∃ s', e = .returned (.int .i64 ((s.bg : Int) + 1)) ∧ TurnS w w' s s' ∧ s'.R = s.R ++ [((s.bg : Int) + 1, n)] ∧ s'.bg = s.bg + 1
set_option maxRecDepth 100000 in
set_option maxHeartbeats 2000000 in
theorem openS_calls (s : StV) (n : Int) (w : World) (h : StAt w s) (hbg : s.bg < 4611686018427387904) : Calls Tryz.prog 32 #[.pointer (some ⟨s.p, 0, none⟩), .int .i64 n] w (OpenSQ w s n) := by
  have c2 : w.cell? ⟨s.p, 2, none⟩ = some (.int .i64 s.bg) := h.blk.cell 2
  have f2 : w.frozen? ⟨s.p, 2, none⟩ = false := h.blk.frozen 2
  have hw1 : IntKind.i64.wrap ((s.bg : Int) + 1) = (s.bg : Int) + 1 := IntWalk.i64_in _ (by omega)
  obtain ⟨W, hW⟩ : ∃ X, w.setCell ⟨s.p, 2, none⟩ (.int .i64 ((s.bg : Int) + 1)) = X := ⟨_, rfl⟩
  have hb1 : But w W (fun i => i = s.p) := hW ▸ (But.refl w (fun i => i = s.p)).setCell (p := ⟨s.p, 2, none⟩) (fun _ => rfl) _
  have hblk : Blk W s.p 58 #[.slice (some ⟨s.gs, 0, none⟩) s.n s.n, .map (some s.mr), .int .i64 ((s.bg : Int) + 1)] := hW ▸ h.blk.set_ 2 (.int .i64 ((s.bg : Int) + 1))
  have hrd : MapT eI eI W s.mr s.R := h.rd.but hb1 (fun e => blk_map_ne h.blk h.rd e.symm)
  obtain ⟨WD, hWD⟩ : ∃ X, W.drew = X := ⟨_, rfl⟩
  have hbD : Below W.heap.size W WD := hWD ▸ (Below.refl _ _).drew
  have hblkD := hblk.below hbD hblk.lt
  have hrdD := hrd.below hbD
  have d1 : WD.cell? ⟨s.p, 1, none⟩ = some (.map (some s.mr)) := hblkD.cell 1
  have d2 : WD.cell? ⟨s.p, 2, none⟩ = some (.int .i64 ((s.bg : Int) + 1)) := hblkD.cell 2
  have hnk : ∀ q ∈ s.R, q.1 ≠ (s.bg : Int) + 1 := fun q hq e => by have := (h.rdk q hq).2.2; omega
  obtain ⟨w5, hrun, hm5, hg5, _⟩ := hrdD.put (P := Tryz.prog) (keyE_int WD) (fun q hq => (h.rdk q hq).1) (x := (s.bg : Int) + 1) (wfI_of (by omega) (by omega)) Tryz.underlying56 n
  unfold eI at hrun
  have hb5 := grown_but hg5
  have hblk5 := hblkD.but hb5 (blk_map_ne hblkD hrdD)
  have e2 : w5.cell? ⟨s.p, 2, none⟩ = some (.int .i64 ((s.bg : Int) + 1)) := hblk5.cell 2
  rw [mput_none hnk] at hm5
  have hbt : But w w5 (fun i => i = s.p ∨ i = s.mr) := ((hb1.weak (fun _ _ h => .inl h)).trans (But.of_below hbD (fun i => i = s.p ∨ i = s.mr)) (fun _ _ h => h)).trans hb5 (fun _ _ h => .inr h)
  have hat := h.readers (bg' := s.bg + 1) hbt (by simpa using hblk5) hm5 (by
    rw [List.map_append, List.nodup_append]
    exact ⟨h.rdn, by simp, fun a ha b hb e => by
      obtain ⟨q, hq, rfl⟩ := List.mem_map.1 ha
      simp only [List.map_cons, List.map_nil, List.mem_singleton] at hb
      exact hnk q hq (e.trans hb)⟩) (fun q hq => by
    rcases List.mem_append.1 hq with hq | hq
    · have := h.rdk q hq; exact ⟨this.1, this.2.1, by omega⟩
    · rw [List.mem_singleton.1 hq]; exact ⟨wfI_of (by simp; omega) (by simp; omega), by simp; omega, by simp⟩)
  have hfin : OpenSQ w s n (.returned (.int .i64 ((s.bg : Int) + 1))) w5 := by
    refine ⟨_, rfl, ⟨hat, rfl, rfl, rfl, hbt.weak (fun i _ hi => ?_), fun i hi => .inl ?_⟩, rfl, rfl⟩
    · rcases hi with hi | hi
      · exact .inl hi
      · exact .inr (.inr (.inl hi))
    · exact hi
  have HF := Lib.hid hfin
  have HWD := Lib.hid hWD
  have HW := Lib.hid hW
  clear hb1 hblk hrd hbD hblkD hrdD hnk hm5 hg5 hb5 hblk5 hbt hat hfin hWD hW h
  go_enter Tryz.func32, Tryz.ntmps32
  go_wp2_with (fail)
  refine region_tail 9 (by kernel_rfl) (by kernel_rfl) ?_
  rw [HW.out, HWD.out]
  simp only [List.take_succ_cons, List.take_zero, List.drop_succ_cons, List.drop_zero]
  repeat still_step
  refine wpStill_nil ?_
  go_wp2
  go_ret
  exact HF.out
def CloseSQ (w : World) (s : StV) (r : Int) (e : Ending) (w' : World) : Prop := ∃ s', e = .returned (.bool (mget s.R r).isSome) ∧ TurnS w w' s s' ∧ s'.R = mdel s.R r ∧ s'.bg = s.bg
set_option maxRecDepth 100000 in
set_option maxHeartbeats 2000000 in
theorem closeS_calls (s : StV) (r : Int) (w : World) (h : StAt w s) (hr : wfI r) : Calls Tryz.prog 33 #[.pointer (some ⟨s.p, 0, none⟩), .int .i64 r] w (CloseSQ w s r) := by
  have c1 : w.cell? ⟨s.p, 1, none⟩ = some (.map (some s.mr)) := h.blk.cell 1
  have hlook := h.rd.look (P := Tryz.prog) (keyE_int w) (fun q hq => (h.rdk q hq).1) hr Tryz.underlying56 (z := .int .i64 0) (by kernel_rfl) true
  simp only [if_true] at hlook
  unfold eI at hlook
  obtain ⟨w5, hrun, hm5, hg5, _⟩ := h.rd.del (P := Tryz.prog) (keyE_int w) (fun q hq => (h.rdk q hq).1) hr Tryz.underlying56 0
  unfold eI at hrun
  have hb5 := grown_but hg5
  have hbt : But w w5 (fun i => i = s.p ∨ i = s.mr) := hb5.weak (fun _ _ h => .inr h)
  have hsub : ∀ q ∈ mdel s.R r, q ∈ s.R := fun q hq => (List.mem_filter.1 hq).1
  have hat := h.readers (bg' := s.bg) hbt (h.blk.but hb5 (blk_map_ne h.blk h.rd)) hm5 ((List.filter_sublist.map _).nodup h.rdn) (fun q hq => h.rdk q (hsub q hq))
  obtain ⟨b, hbb⟩ : ∃ b, (mget s.R r).isSome = b := ⟨_, rfl⟩
  obtain ⟨x, hxx⟩ : ∃ x, ((mget s.R r).map (fun n : Int => Value.int .i64 n)).getD (.int .i64 0) = x := ⟨_, rfl⟩
  have hfin : CloseSQ w s r (.returned (.bool b)) w5 := by
    refine ⟨_, by rw [hbb], ⟨hat, rfl, rfl, rfl, hbt.weak (fun i _ hi => ?_), fun i hi => .inl hi⟩, rfl, rfl⟩
    rcases hi with hi | hi
    · exact .inl hi
    · exact .inr (.inr (.inl hi))
  have hl2 : (Instr.lookup 56 (.map (some s.mr)) (.int .i64 r) true).run Tryz.prog w = .ok (.tuple #[x, .bool b]) w := by rw [hlook, ← hbb, ← hxx]; first | done | rfl
  have HF := Lib.hid hfin
  clear hlook hm5 hg5 hb5 hbt hsub hat hfin hbb hxx h hr
  go_enter Tryz.func33, Tryz.ntmps33
  go_wp2
  go_ret
  exact HF.out
set_option maxRecDepth 100000 in
set_option maxHeartbeats 2000000 in
theorem oldestS_calls (s : StV) (n : Int) (w : World) (h : StAt w s) : Calls Tryz.prog 34 #[.pointer (some ⟨s.p, 0, none⟩), .int .i64 n] w fun e w' => e = .returned (.int .i64 (minL n s.R)) ∧ Below w.heap.size w w' := by
  have c1 : w.cell? ⟨s.p, 1, none⟩ = some (.map (some s.mr)) := h.blk.cell 1
  obtain ⟨W2, hrange, hR, hb2, hs2⟩ := h.rd.range (P := Tryz.prog) Tryz.underlying56
  obtain ⟨r, hr⟩ : ∃ r, w.heap.size = r := ⟨_, rfl⟩
  rw [hr] at hrange hR
  have HR := Lib.hid hR
  have HB2 := Lib.hid hb2
  have HRR := Lib.hid hr
  clear hR hb2 hs2 hr h
  go_enter Tryz.func34, Tryz.ntmps34
  go_wp2_with (fail)
  go_loopw [1] (fun v wr => ∃ (m : Int) (done left : List (Int × Int)), v = .int .i64 m ∧ RngT eI eI wr s.mr r s.R left ∧ (done ++ left).Perm s.R ∧ m = minL n done ∧ Below w.heap.size w wr) (fun _ wr => wr.rangeLeft s.mr r)
  case atStart => exact ⟨n, [], _, rfl, HR.out, List.Perm.refl _, rfl, HB2.out⟩
  case round =>
    obtain ⟨m, done, left, rfl, hR, hp, hm, hb⟩ := hrel
    have hle := hR.left_eq
    rcases hR.next (P := Tryz.prog) 0 with ⟨rfl, hnext⟩ | ⟨a, x, y, c, W3, rfl, hnext, hR3, hg3, hs3, hent⟩
    · rw [List.append_nil] at hp
      rw [minL_perm hp] at hm
      have HM := Lib.hid hm
      have HB := Lib.hid hb
      clear hR hle hp hm hb
      go_wp2
      go_ret
      exact ⟨by rw [← HM.out]; rfl, HB.out⟩
    · unfold eI at hnext hent
      have hb3 : Below w.heap.size w W3 := hb.trans ((grown_but hg3).to_below (fun i hi => by rw [hi]; have := HRR.out; omega) hb.size)
      have hp2 : ((done ++ [(x, y)]) ++ (a ++ c)).Perm s.R := by
        refine List.Perm.trans ?_ hp
        rw [List.append_assoc]
        refine List.Perm.append_left done ?_
        show ((x, y) :: (a ++ c)).Perm _
        exact List.perm_middle.symm
      have hm2 : minL n (done ++ [(x, y)]) = min m y := by unfold minL; rw [List.foldl_append, hm]; rfl
      have HR3 := Lib.hid hR3
      have HB3 := Lib.hid hb3
      have HP2 := Lib.hid hp2
      have HM2 := Lib.hid hm2
      have HLE : Hid (wr.rangeLeft s.mr r = a.length + c.length + 1) := by show _ = _; rw [hle]; simp; omega
      clear hR hle hp hb hR3 hg3 hs3 hb3 hp2 hm2 hm
      by_cases hmy : m ≤ y
      · have hmin : min m y = m := by omega
        have HMIN := Lib.hid hmin
        clear hmin
        go_wp2_with (fail)
        go_roundw
        case rel => exact ⟨m, _, _, rfl, HR3.out, HP2.out, by rw [HM2.out, HMIN.out], HB3.out⟩
        case measure => rw [HR3.out.left_eq, HLE.out]; simp
      · have hmin : min m y = y := by omega
        have HMIN := Lib.hid hmin
        have hmy2 : y ≤ m := by omega
        clear hmin
        go_wp2_with (fail)
        go_roundw
        case rel => exact ⟨y, _, _, rfl, HR3.out, HP2.out, by rw [HM2.out, HMIN.out], HB3.out⟩
        case measure => rw [HR3.out.left_eq, HLE.out]; simp
/-- How many versions there are. -/
def lens (l : List (Key × Ch)) : Nat := (l.map (fun q => q.2.L.length)).sum
theorem lens_app (a b : List (Key × Ch)) : lens (a ++ b) = lens a + lens b := by unfold lens; simp
theorem lens_cons (q : Key × Ch) (l : List (Key × Ch)) : lens (q :: l) = q.2.L.length + lens l := by unfold lens; simp
def eC (c : Ch) : Value := eP c.p
theorem mapT_ch {w : World} {m : Nat} {l : List (Key × Ch)} (h : MapT eK eP w m (l.map (fun q => (q.1, q.2.p)))) : MapT eK eC w m l := by
  obtain ⟨es, clock, h1, h2, h3⟩ := h
  refine ⟨es, clock, h1, h2, ?_⟩
  rw [h3, List.map_map]
  rfl
set_option maxRecDepth 100000 in
set_option maxHeartbeats 2000000 in
theorem versionsS_calls (s : StV) (w : World) (h : StAt w s) (hv : lens s.chs ≤ 4611686018427387904) : Calls Tryz.prog 16 #[.pointer (some ⟨s.p, 0, none⟩)] w fun e w' => e = .returned (.int .i64 (lens s.chs)) ∧ Below w.heap.size w w' := by
  have c0 : w.cell? ⟨s.p, 0, none⟩ = some (.slice (some ⟨s.gs, 0, none⟩) s.n s.n) := h.blk.cell 0
  have H := Lib.hid h
  have hn := h.n1
  have hlen : s.S.length = s.n := h.len
  have HLEN := Lib.hid hlen
  clear h hlen
  go_enter Tryz.func16, Tryz.ntmps16
  go_wp2_with (fail)
  go_loopw [3, 13] (fun v i wr => ∃ k : Nat, k ≤ s.n ∧ i = .int .i64 k ∧ v = .int .i64 (lens (s.S.take k).flatten) ∧ Below w.heap.size w wr) (fun _ i _ => s.n - (intOf i).toNat)
  case atStart => exact ⟨0, by omega, rfl, rfl, Below.refl _ _⟩
  case round =>
    obtain ⟨k, hk, rfl, rfl, hb⟩ := hrel
    by_cases hlt : k < s.n
    · have hkl : (k : Int) < s.n := by omega
      have hks : k < s.S.length := by rw [HLEN.out]; exact hlt
      have hkm : k < s.ms.length := hlt
      have hw := H.out.below hb
      have cm : wr.cell? ⟨s.gs, k, none⟩ = some (.map (some s.ms[k])) := (hw.row.cell k).trans (by simp [eM, hkm])
      obtain ⟨W2, hrange, hR, hb2, hs2⟩ := (mapT_ch (hw.maps k hkm hks)).range (P := Tryz.prog) Tryz.underlying59
      obtain ⟨r, hr⟩ : ∃ r, wr.heap.size = r := ⟨_, rfl⟩
      obtain ⟨m, hm⟩ : ∃ m, s.ms[k] = m := ⟨_, rfl⟩
      rw [hm] at cm hrange hR
      rw [hr] at hrange hR
      have hT : (s.S.take (k + 1)).flatten = (s.S.take k).flatten ++ s.S[k] := by rw [List.take_succ_eq_append_getElem hks, List.flatten_append]; simp
      have hle1 : lens (s.S.take k).flatten + lens s.S[k] ≤ lens s.chs := by
        unfold StV.chs
        rw [flat_at hks, lens_app, lens_app]
        omega
      obtain ⟨A, hA⟩ : ∃ A, lens (s.S.take k).flatten = A := ⟨_, rfl⟩
      rw [hA] at hle1 ⊢
      have HT := Lib.hid hT
      have HA := Lib.hid hA
      have HR := Lib.hid hR
      have HB2 := Lib.hid (hb.trans (hb2.mono hb.size))
      have HRS : Hid (w.heap.size ≤ r) := by have := hb.size; show _ ≤ _; omega
      have HMEM : Hid (∀ q ∈ s.S[k], q ∈ s.chs) := fun q hq => H.out.mem_chs hks hq
      clear hw hb2 hs2 hr hm hT hA hR hb
      go_wp2_with (fail)
      go_loopw [3] (fun v wr => ∃ (N : Nat) (left : List (Key × Ch)), v = .int .i64 N ∧ RngT eK eC wr m r s.S[k] left ∧ (∀ q ∈ left, q ∈ s.S[k]) ∧ N + lens left = A + lens s.S[k] ∧ Below w.heap.size w wr) (fun _ wr => wr.rangeLeft m r)
      case atStart => exact ⟨A, _, rfl, HR.out, fun q hq => hq, rfl, HB2.out⟩
      case round =>
        obtain ⟨N, left, rfl, hR, hsub, hN, hb⟩ := hrel
        have hle := hR.left_eq
        rcases hR.next (P := Tryz.prog) 0 with ⟨rfl, hnext⟩ | ⟨a, x, y, c, W3, rfl, hnext, hR3, hg3, hs3, hent⟩
        · have hN2 : N = A + lens s.S[k] := by simpa [lens] using hN
          have HN := Lib.hid hN2
          have HB := Lib.hid hb
          clear hR hle hsub hN hb hN2
          go_wp2_with (fail)
          go_roundw
          case rel => exact ⟨k + 1, by omega, by go_num, by rw [HT.out, lens_app, HA.out, HN.out], HB.out⟩
          case measure => simp [intOf]; omega
        · unfold eK eC eP at hnext hent
          have hb3 : Below w.heap.size w W3 := hb.trans ((grown_but hg3).to_below (fun i hi => by rw [hi]; exact HRS.out) hb.size)
          have hx : (x, y) ∈ s.S[k] := hsub _ (by simp)
          have hch := (H.out.below hb3).chs _ (HMEM.out _ hx)
          rw [lens_app, lens_cons] at hN
          simp only at hch hN
          have hlc := len_calls W3 hch
          have hwr : IntKind.i64.wrap ((N : Int) + y.L.length) = (N : Int) + y.L.length := IntWalk.i64_in _ (by omega)
          have HN : Hid (N + y.L.length + lens (a ++ c) = A + lens s.S[k]) := by show _ = _; rw [lens_app]; omega
          have HSUB : Hid (∀ q ∈ a ++ c, q ∈ s.S[k]) := fun q hq => hsub q (by
            rcases List.mem_append.1 hq with h | h
            · exact List.mem_append_left _ h
            · exact List.mem_append_right _ (List.mem_cons_of_mem _ h))
          have HR3 := Lib.hid hR3
          have HB3 := Lib.hid hb3
          have HLC := Lib.hid hlc
          have HLE : Hid (wr.rangeLeft m r = a.length + c.length + 1) := by show _ = _; rw [hle]; simp; omega
          clear hR hle hsub hN hb hR3 hb3 hlc hg3 hs3 hch hx
          go_wp2_with (fail)
          refine HLC.out.mono ?_
          rintro e W3 ⟨rfl, rfl⟩
          go_wp2_with (fail)
          go_roundw
          case rel => exact ⟨N + y.L.length, _, by go_num, HR3.out, HSUB.out, HN.out, HB3.out⟩
          case measure => rw [HR3.out.left_eq, HLE.out]; simp
    · obtain rfl : k = s.n := by omega
      have hall : s.S.take s.n = s.S := by rw [← HLEN.out]; exact List.take_length
      rw [hall]
      have HB := Lib.hid hb
      clear hb hall
      go_wp2
      go_ret
      exact ⟨rfl, HB.out⟩
end Go.Proofs.YtflkddllofeiaaaGreatDoor
