/- slices.Clone at marks; balance.mark where nothing is marked; balance.Credit, by contracts. -/
import Derived.Test.YtcgcgekefhhjhaaDoorMove14
import Derived.Lib.LazyBuf
namespace Go.Proofs.YtcgcgekefhhjhaaDoor
set_option linter.unusedSimpArgs false
set_option linter.unusedVariables false
open Go.RowKit

theorem infoMk : (Tryd.prog.info? 37).map (fun i => (i.zero, i.size, i.bytes)) = some (some (.agg #[.int .i64 0, .int .i64 0]), 2, 16) := by kernel_rfl
theorem marks_one (xs : List Mk) : ∀ u ∈ marksC xs, u.oneCell' = true := by
  intro u hu
  obtain ⟨x, _, hx⟩ := List.mem_flatMap.1 hu
  simp [Mk.cs] at hx
  rcases hx with rfl | rfl <;> rfl
theorem own_empty (w : World) (t : TypeId) (s : Nat) (B : Nat) (hB : B ≤ w.heap.size) : (w.alloc (.cells #[] t)).ownsRow B t s (.slice (some ⟨w.heap.size, 0, none⟩) 0 0) 0 [] :=
  ⟨by simp, .inr ⟨w.heap.size, 0, #[], rfl, hB, heap_alloc_new w _, Nat.le_refl _, by unfold maxLen; omega, by simp, by simp⟩⟩
theorem own_slice {w : World} {base : Nat} {e : TypeId} {size n : Nat} {v : Value} {xs : List Value} (h : w.ownsRow base e size v n xs) : ∃ A c, v = .slice A n c := by
  rcases h.2 with h0 | ⟨g, cap, cur, rfl, _⟩
  · exact ⟨none, 0, by rw [h0.1, h0.2]⟩
  · exact ⟨_, _, rfl⟩
/-- A row of marks of the call's own. -/
def OwnM (w : World) (B : Nat) (v : Value) (l : List Mk) : Prop := w.ownsRow B 37 2 v l.length (marksC l)

set_option maxRecDepth 100000 in
set_option maxHeartbeats 2000000 in
theorem clone_calls (l : List Mk) (A : Option Addr) (c B : Nat) (w : World) (hr : Reads w B 2 A l.length (marksC l)) (hB : B ≤ w.heap.size) (hlen : l.length * 16 ≤ 140737488351232) :
    Calls Tryd.prog 63 #[.slice A l.length c] w
      fun e w' => ∃ v, e = .returned v ∧ OwnM w' w.heap.size v l ∧ Below w.heap.size w w' := by
  obtain ⟨i0, hi0, hz0, hz1, hz2⟩ := info_parts infoMk
  have hl : (marksC l).length = l.length * 2 := hr.1
  have heq := fun W => run_eql_slice_nil (P := Tryd.prog) W _ _ A l.length c Tryd.underlying22
  cases A with
  | none =>
    have h0 : l = [] := by
      rcases Nat.eq_zero_or_pos l.length with h | h
      · exact List.eq_nil_of_length_eq_zero h
      · obtain ⟨ad, e, _⟩ := hr.2 h
        cases e
    subst h0
    clear hr hl heq
    have heq := fun W => run_eql_slice_nil (P := Tryd.prog) W _ _ none 0 c Tryd.underlying22
    go_enter Tryd.func63, Tryd.ntmps63
    go_wp2
    go_ret
    exact ⟨_, rfl, World.ownsRow_nil _ _ _ _, Below.refl _ _⟩
  | some ad =>
    have hc : ∀ j u, (marksC l)[j]? = some u → (w.alloc (.cells #[] 37)).cell? (ad.add j) = some u := by
      intro j u hu
      rcases Nat.eq_zero_or_pos l.length with h | h
      · rw [List.eq_nil_of_length_eq_zero h] at hu
        simp [marksC] at hu
      · obtain ⟨ad2, e, hb, hc⟩ := hr.2 h
        cases e
        exact (World.cell?_alloc_lt w _ _ (by rw [block_of_add]; omega)).trans (hc j u hu)
    have HC := Lib.hid hc
    have HL := Lib.hid hl
    clear hr hc hl
    go_enter Tryd.func63, Tryd.ntmps63
    go_wp2_with (first | (at_builtin; refine wpList_append_own_at _ rfl (.tmp 5) (.tmp 6) 22 rfl w.heap.size 37 i0 _ 2 16 Tryd.underlying22 hi0 hz0 hz1 hz2 rfl (by decide) _ 0 [] rfl (own_empty w _ _ _ (Nat.le_refl _)) ad l.length c (marksC l) rfl HL.out HC.out (marks_one l) ?_ ?_ ?_ ?_; (unfold maxLen; omega); (omega); (simp); intro v1 w2 hown2 hg2 _ hat2))
    go_ret
    refine ⟨_, rfl, by simpa [OwnM] using hown2, ?_⟩
    exact ((Below.refl _ _).alloc (Nat.le_refl _) _).grown hg2 (by simp) (fun k hk => by cases hk; exact Nat.le_refl _)

theorem OwnM.below {w w' : World} {B : Nat} {v : Value} {l : List Mk} (h : OwnM w B v l) (hb : Below w.heap.size w w') : OwnM w' B v l := own_below h hb
/-- A position in a variable, its marks in memory of the call's own. -/
structure OutP (w : World) (B g : Nat) (a : Int) (v : Value) (l : List Mk) : Prop where
  b : Blk w g 24 #[.int .i64 a, v]
  m : OwnM w B v l
  ge : B ≤ g

theorem OnwM_ne {w : World} {B g0 : Nat} {v : Value} {l : List Mk} {t : TypeId} {cs : Array Value} (h : OwnM w B v l) (hb : Blk w g0 t cs) (ht : t ≠ 37) : v.ownBlock ≠ some g0 := by
  rcases h.2 with h0 | ⟨g, cap, cur, rfl, _, h2, _⟩
  · rw [h0.1]; simp [Value.ownBlock]
  · intro he
    have : g = g0 := by simpa [Value.ownBlock] using he
    subst this
    have hb' : w.heap[g]? = some (.cells cs t (0, 0)) := hb
    rw [h2] at hb'
    injection hb' with h3
    injection h3 with _ h4
    exact ht h4.symm
theorem OwnM.far0 {w : World} {B g0 i : Nat} {v : Value} {l : List Mk} (h : OwnM w B v l) (hn : v.ownBlock ≠ some g0) (u : Value) : OwnM (w.setCell ⟨g0, i, none⟩ u) B v l := by
  refine ⟨h.1, ?_⟩
  rcases h.2 with h0 | ⟨g, cap, cur, rfl, h1, h2, h3⟩
  · exact .inl h0
  · exact .inr ⟨g, cap, cur, rfl, h1, (Below.heap_setCell w ⟨g0, i, none⟩ u g (fun e => hn (by have e' : g = g0 := e; subst e'; rfl))).trans h2, h3⟩
theorem OwnM.far {w : World} {B g0 : Nat} {v : Value} {l : List Mk} {cs : Array Value} (h : OwnM w B v l) (hb : Blk w g0 24 cs) (i : Nat) (u : Value) : OwnM (w.setCell ⟨g0, i, none⟩ u) B v l :=
  h.far0 (OnwM_ne h hb (by decide)) u
theorem OwnM.alloc {w : World} {B : Nat} {v : Value} {l : List Mk} (h : OwnM w B v l) (o : Obj) : OwnM (w.alloc o) B v l := h.below ((Below.refl _ _).alloc (Nat.le_refl _) o)
theorem OwnM.base {w : World} {B C : Nat} {v : Value} {l : List Mk} (h : OwnM w B v l) (hc : C ≤ B) : OwnM w C v l := by
  refine ⟨h.1, ?_⟩
  rcases h.2 with h0 | ⟨g, cap, cur, rfl, h1, h2⟩
  · exact .inl h0
  · exact .inr ⟨g, cap, cur, rfl, Nat.le_trans hc h1, h2⟩
theorem OutP.below {w w' : World} {B g : Nat} {a : Int} {v : Value} {l : List Mk} (h : OutP w B g a v l) (hb : Below w.heap.size w w') : OutP w' B g a v l := ⟨h.b.below hb h.b.lt, h.m.below hb, h.ge⟩

set_option maxRecDepth 100000 in
set_option maxHeartbeats 4000000 in
theorem mark0_calls (a : Int) (l : List Mk) (A : Option Addr) (c B : Nat) (free n : Int) (w : World) (h : PosOK w B a l A) (hB : B ≤ w.heap.size) (ha : -9223372036854775808 ≤ a + free ∧ a + free ≤ 9223372036854775807) :
    Calls Tryd.prog 45 #[.agg #[.int .i64 a, .slice A l.length c], .int .i64 free, .int .i64 n, .int .i64 0] w
      fun e w' => ∃ v, e = .returned (.agg #[.int .i64 (a + free), v]) ∧ OwnM w' w.heap.size v l ∧ Below w.heap.size w w' := by
  have h0 := Lib.hid h
  have HB0 := Lib.hid hB
  obtain ⟨gp, hgp⟩ : ∃ g, w.heap.size = g := ⟨_, rfl⟩
  obtain ⟨W1, hW1⟩ : ∃ W, w.alloc (.cells #[.int .i64 a, .slice A l.length c] 24) = W := ⟨_, rfl⟩
  obtain ⟨W2, hW2⟩ : ∃ W, W1.alloc (.cells #[.int .i64 0, .slice none 0 0] 24) = W := ⟨_, rfl⟩
  obtain ⟨gr, hgr⟩ : ∃ g, W1.heap.size = g := ⟨_, rfl⟩
  have hb1 : Below w.heap.size w W1 := hW1 ▸ (Below.refl _ _).alloc (Nat.le_refl _) _
  have hb2 : Below w.heap.size w W2 := hW2 ▸ hb1.alloc hb1.size _
  have hp : Blk W2 gp 24 #[.int .i64 a, .slice A l.length c] := by rw [← hW2, ← hW1]; exact (blkNew hgp).alloc _
  have hr : Blk W2 gr 24 #[.int .i64 0, .slice none 0 0] := by rw [← hW2]; exact blkNew hgr
  have hgr2 : gr = gp + 1 := by rw [← hgr, ← hW1]; simp [hgp]
  have H := Lib.hid (h.below (hb2.mono hB))
  have HBB := Lib.hid (Nat.le_trans hB hb2.size)
  have HB2 := Lib.hid hb2
  have HP := Lib.hid hp
  have HR := Lib.hid hr
  have HGR := Lib.hid hgr2
  have hwr : IntKind.i64.wrap (a + free) = a + free := IntWalk.i64_in _ ha
  have p0 : W2.cell? ⟨gp, 0, none⟩ = some (.int .i64 a) := hp.cell 0
  have p1 : W2.cell? ⟨gp, 1, none⟩ = some (.slice A l.length c) := hp.cell 1
  have HA := Lib.hid ha
  clear h hb1 hb2 hp hr hB ha hgr2
  go_enter Tryd.func45, Tryd.ntmps45
  go_upto_region 1 with fail
  go_cut [9] from 12 to 19 (fun t9 wd => ∃ g9 v, t9 = .pointer (some ⟨g9, 0, none⟩) ∧ OutP wd w.heap.size g9 (a + free) v l ∧ Blk wd gp 24 #[.int .i64 a, .slice A l.length c] ∧ Blk wd gr 24 #[.int .i64 0, .slice none 0 0] ∧ gr < g9 ∧ Below w.heap.size w wd)
  case first =>
    obtain ⟨g9, hg9⟩ : ∃ g, W2.heap.size = g := ⟨_, rfl⟩
    obtain ⟨W3, hW3⟩ : ∃ W, (W2.alloc (.cells #[.int .i64 0, .slice none 0 0] 24)).drew = W := ⟨_, rfl⟩
    have hb3 : Below W2.heap.size W2 W3 := hW3 ▸ ((Below.refl _ _).alloc (Nat.le_refl _) _).drew
    have h93 : Blk W3 g9 24 #[.int .i64 0, .slice none 0 0] := by rw [← hW3]; exact (blkNew hg9).drew
    have hr9 : gr < g9 := hg9 ▸ HR.out.lt
    have HR9 := Lib.hid hr9
    have HPG : Hid (gp < g9) := Lib.hid (hg9 ▸ HP.out.lt)
    have H3 := Lib.hid (H.out.below (hb3.mono HBB.out))
    have HBB3 := Lib.hid (Nat.le_trans HBB.out hb3.size)
    have HB3 := Lib.hid (HB2.out.trans (hb3.mono HB2.out.size))
    have HP3 := Lib.hid (HP.out.below hb3 HP.out.lt)
    have HR3 := Lib.hid (HR.out.below hb3 HR.out.lt)
    have H93 := Lib.hid h93
    have HW3 := Lib.hid hW3
    clear hb3 h93 hr9 hW3
    obtain ⟨WD, hWD⟩ : ∃ W, W2.drew = W := ⟨_, rfl⟩
    have hbd : Below W2.heap.size W2 WD := hWD ▸ (Below.refl _ _).drew
    have HD := Lib.hid (H.out.below (hbd.mono HBB.out))
    have HBBD := Lib.hid (Nat.le_trans HBB.out hbd.size)
    have HBD := Lib.hid (HB2.out.trans (hbd.mono HB2.out.size))
    have HPD := Lib.hid (HP.out.below hbd HP.out.lt)
    have HRD := Lib.hid (HR.out.below hbd HR.out.lt)
    have HWD := Lib.hid hWD
    clear hbd hWD
    go_region_held3 (fun w' => w'.cell? ⟨gp, 0, none⟩ = some (.int .i64 a) ∧ w'.cell? ⟨gp, 1, none⟩ = some (.slice A l.length c)) (first | go_keep | fail)
      (first
        | (go_at_call 63; rw [HW3.out]; refine (clone_calls l A c B W3 H3.out.r HBB3.out H3.out.len).mono ?_; rintro e w3 ⟨v3, rfl, hm3, hb3⟩; obtain ⟨A3, c3, rfl⟩ := own_slice hm3; have HM3 := Lib.hid hm3; have HBW3 := Lib.hid hb3; have hp3 := HP3.out.below hb3 HP3.out.lt; have h93 := H93.out.below hb3 H93.out.lt; have q0 : w3.cell? ⟨gp, 0, none⟩ = some (.int .i64 a) := hp3.cell 0; have q1 : w3.cell? ⟨gp, 1, none⟩ = some (.slice A l.length c) := hp3.cell 1; have n0 : w3.cell? ⟨g9, 0, none⟩ = some (.int .i64 0) := h93.cell 0; have n1 : w3.cell? ⟨g9, 1, none⟩ = some (.slice none 0 0) := h93.cell 1; have z0 : w3.frozen? ⟨g9, 0, none⟩ = false := h93.frozen 0; have z1 : w3.frozen? ⟨g9, 1, none⟩ = false := h93.frozen 1; have hne : gp ≠ g9 := Nat.ne_of_lt HPG.out; have hne2 : g9 ≠ gp := Ne.symm hne; clear hm3 hb3 hp3 h93)
        | (go_at_call 63; rw [HWD.out]; refine (clone_calls l A c B WD HD.out.r HBBD.out HD.out.len).mono ?_; rintro e w4 ⟨v3, rfl, hm4, hb4⟩; obtain ⟨A3, c3, rfl⟩ := own_slice hm4; have HM4 := Lib.hid hm4; have HBW4 := Lib.hid hb4; have hp4 := HPD.out.below hb4 HPD.out.lt; have q0 : w4.cell? ⟨gp, 0, none⟩ = some (.int .i64 a) := hp4.cell 0; have q1 : w4.cell? ⟨gp, 1, none⟩ = some (.slice A l.length c) := hp4.cell 1; have hne : gp ≠ w4.heap.size := Nat.ne_of_lt hp4.lt; have hne2 : w4.heap.size ≠ gp := Ne.symm hne; clear hm4 hb4 hp4))
    · go_wp2
      go_meet
      case rel => exact ⟨_, _, rfl, ⟨blkNew rfl, (HM4.out.base HBD.out.size).alloc _, Nat.le_trans HBD.out.size HBW4.out.size⟩, (HPD.out.below HBW4.out HPD.out.lt).alloc _, (HRD.out.below HBW4.out HRD.out.lt).alloc _, Nat.lt_of_lt_of_le HRD.out.lt HBW4.out.size, (HBD.out.trans (HBW4.out.mono HBD.out.size)).alloc (Nat.le_trans HBD.out.size HBW4.out.size) _⟩
    · go_wp2
      go_meet
      case rel =>
        have hb9 := H93.out.below HBW3.out H93.out.lt
        have hne3 : gr ≠ g9 := Nat.ne_of_lt HR9.out
        refine ⟨_, _, rfl, ⟨(hb9.set_ 0 (.int .i64 (a + free))).set_ 1 (.slice A3 l.length c3), ?_, ?_⟩, ((HP3.out.below HBW3.out HP3.out.lt).far (p := ⟨g9, 0, none⟩) hne _).far (p := ⟨g9, 1, none⟩) hne _, ((HR3.out.below HBW3.out HR3.out.lt).far (p := ⟨g9, 0, none⟩) hne3 _).far (p := ⟨g9, 1, none⟩) hne3 _, HR9.out, ?_⟩
        · exact ((HM3.out.base HB3.out.size).far hb9 _ _).far (hb9.set_ 0 _) _ _
        · have := HB2.out.size; have := HPG.out; omega
        · have hge : w.heap.size ≤ g9 := by have := HPG.out; omega
          exact ((HB3.out.trans (HBW3.out.mono HB3.out.size)).setCell (p := ⟨g9, 0, none⟩) hge _).setCell (p := ⟨g9, 1, none⟩) hge _
  case rest =>
    obtain ⟨g9, v, rfl, hO, hp, hr, hrg, hB⟩ := hcut
    obtain ⟨A9, c9, rfl⟩ := own_slice hO.m
    have HO := Lib.hid hO
    have HPW := Lib.hid hp
    have HRW := Lib.hid hr
    have HRG := Lib.hid hrg
    have HBW := Lib.hid hB
    have HWR := Lib.hid (H.out.r)
    have hle2 := HB2.out.size
    have q0 : wc.cell? ⟨gp, 0, none⟩ = some (.int .i64 a) := hp.cell 0
    have q1 : wc.cell? ⟨gp, 1, none⟩ = some (.slice A l.length c) := hp.cell 1
    have HPK := Lib.hid (h0.out.below (hB.mono HB0.out))
    clear hO hp hr hrg hB p0 p1 hle2 hwr h0
    go_wp2_with (fail)
    refine (find_calls a l A c B n wc HPK.out.r (Nat.le_trans HB0.out HBW.out.size) (by have := HPK.out.len; omega)).mono ?_
    rintro e w5 ⟨hb5, i, hpl, rfl⟩
    have HO5 := Lib.hid (HO.out.below hb5)
    have HR5 := Lib.hid (HRW.out.below hb5 HRW.out.lt)
    have HB5 := Lib.hid (HBW.out.trans (hb5.mono HBW.out.size))
    have n0 : w5.cell? ⟨g9, 0, none⟩ = some (.int .i64 (a + free)) := HO5.out.b.cell 0
    have n1 : w5.cell? ⟨g9, 1, none⟩ = some (.slice A9 l.length c9) := HO5.out.b.cell 1
    have m0 : w5.cell? ⟨gr, 0, none⟩ = some (.int .i64 0) := HR5.out.cell 0
    have m1 : w5.cell? ⟨gr, 1, none⟩ = some (.slice none 0 0) := HR5.out.cell 1
    have z0 : w5.frozen? ⟨gr, 0, none⟩ = false := HR5.out.frozen 0
    have z1 : w5.frozen? ⟨gr, 1, none⟩ = false := HR5.out.frozen 1
    clear hb5 q0 q1 hpl
    go_wp2_with (fail)
    have hge : w.heap.size ≤ gr := by have := HGR.out; omega
    have hrr := (HR5.out.set_ 0 (.int .i64 (a + free))).set_ 1 (.slice A9 l.length c9)
    refine ⟨rfl, _, results_cell1 Tryd.results45 rfl [.int .i64 (a + free), .slice A9 l.length c9] hrr Tryd.underlying24 rfl Tryd.sizeP, _, rfl, ?_, ?_⟩
    · exact (HO5.out.m.far HR5.out _ _).far (HR5.out.set_ 0 _) _ _
    · exact (HB5.out.setCell (p := ⟨gr, 0, none⟩) hge _).setCell (p := ⟨gr, 1, none⟩) hge _
end Go.Proofs.YtcgcgekefhhjhaaDoor
