/- Queue: who waits, in memory; New, Clone by contracts. -/
import Derived.Test.YtmcknfpohnobdaaDoorQ3
import Derived.Deep.MidRow
import Derived.Lib.LazyBuf
namespace Go.Proofs.YtmcknfpohnobdaaDoor
set_option linter.unusedSimpArgs false
set_option linter.unusedVariables false
open Go.RowKit Go.MapKept Go.ChangeMaps Go.Maps

theorem MapT.nk {K V : Type} {ek : K → Value} {ev : V → Value} {w : World} {b : Nat} {M : List (K × V)} (h : MapT ek ev w b M) : (M.map (·.1)).Nodup := by
  obtain ⟨es, clock, _, hst, hm⟩ := h
  have h1 : (es.toList.map (·.key)).Nodup := by
    have := ((stamped_iff es clock).1 hst).2.2
    exact List.pairwise_map.2 this
  have h2 : es.toList.map (·.key) = (M.map (·.1)).map ek := by
    have := congrArg (List.map Prod.fst) hm
    rw [List.map_map, List.map_map] at this
    rw [List.map_map]
    exact this
  rw [h2] at h1
  exact (List.pairwise_map.1 h1).imp (fun h e => h (by rw [e]))
/-- WAt without its word on who is there. -/
structure WM (w : World) (bw : Nat) (W : List (Key × Nat)) (F : Key → List (Nat × Int)) : Prop where
  top : MapT eK eM w bw W
  inn : ∀ k m, (k, m) ∈ W → MapT eP eI w m (F k)
  nv : (W.map (·.2)).Nodup
  out : ∀ k m, (k, m) ∈ W → m ≠ bw
section
variable {w w' : World} {bw mb m : Nat} {W : List (Key × Nat)} {F G : Key → List (Nat × Int)} {x : Key}
theorem WAt.wm (h : WAt w bw W F) : WM w bw W F := ⟨h.top, h.inn, h.nv, h.out⟩
theorem WM.wat (h : WM w bw W F) (hh : ∀ k, (∃ m, (k, m) ∈ W) ↔ F k ≠ []) : WAt w bw W F := ⟨h.top, h.inn, hh, h.top.nk, h.nv, h.out⟩
theorem WM.congr (h : WM w bw W F) (hF : ∀ k, F k = G k) : WM w bw W G := ⟨h.top, fun k m hm => hF k ▸ h.inn k m hm, h.nv, h.out⟩
theorem WM.but {S : Nat → Prop} (h : WM w bw W F) (hb : But w w' S) (h1 : ¬ S bw) (h2 : ∀ k m, (k, m) ∈ W → ¬ S m) : WM w' bw W F :=
  ⟨h.top.but hb h1, fun k m hm => (h.inn k m hm).but hb (h2 k m hm), h.nv, h.out⟩
theorem WM.below (h : WM w bw W F) (hb : Below w.heap.size w w') : WM w' bw W F := h.but (But.of_below hb (fun _ => False)) (fun h => h) (fun _ _ _ h => h)
theorem grown_but {a b : World} {i : Nat} (h : a.grownBy b (some i)) : But a b (fun j => j = i) := ⟨h.os, h.tape, h.output, h.size, fun k hk hn => h.block k hk (fun e => hn (by cases e; rfl))⟩
/-- A new map is laid under a key. -/
theorem WM.add (h : WM w bw W F) (hx : mget W x = none) (hF : F x = []) (hmb : MapT eP eI w mb ([] : List (Nat × Int))) (hn : ∀ k m, (k, m) ∈ W → m ≠ mb) (hbw : mb ≠ bw) (hput : MapT eK eM w' bw (mput W x mb)) (hg : w.grownBy w' (some bw)) :
    WM w' bw (W ++ [(x, mb)]) F := by
  have hb := grown_but hg
  rw [mput_none (fun q hq e => mget_no hx q.2 (by rw [← e]; exact hq))] at hput
  refine ⟨hput, fun k m hm => ?_, ?_, fun k m hm => ?_⟩
  · rcases List.mem_append.1 hm with hm | hm
    · exact (h.inn k m hm).but hb (h.out k m hm)
    · simp only [List.mem_singleton, Prod.mk.injEq] at hm
      obtain ⟨rfl, rfl⟩ := hm
      rw [hF]
      exact hmb.but hb hbw
  · rw [List.map_append, List.nodup_append]
    refine ⟨h.nv, by simp, ?_⟩
    intro a ha b hb' e
    obtain ⟨q, hq, rfl⟩ := List.mem_map.1 ha
    simp only [List.map_cons, List.map_nil, List.mem_singleton] at hb'
    exact hn q.1 q.2 hq (e.trans hb')
  · rcases List.mem_append.1 hm with hm | hm
    · exact h.out k m hm
    · simp only [List.mem_singleton, Prod.mk.injEq] at hm
      obtain ⟨rfl, rfl⟩ := hm
      exact hbw
/-- What lies under a key is turned. -/
theorem WM.set (h : WM w bw W F) (hx : (x, m) ∈ W) {l : List (Nat × Int)} (hput : MapT eP eI w' m l) (hg : w.grownBy w' (some m)) : WM w' bw W (fun k => if k = x then l else F k) := by
  have hb := grown_but hg
  refine ⟨h.top.but hb (fun e => h.out x m hx e.symm), fun k n hn => ?_, h.nv, h.out⟩
  by_cases hk : k = x
  · subst hk
    rw [if_pos rfl]
    have hnk := h.top.nk
    have : n = m := by
      obtain ⟨i, hi, e1⟩ := List.getElem_of_mem hn
      obtain ⟨j, hj, e2⟩ := List.getElem_of_mem hx
      have key := List.pairwise_iff_getElem.1 hnk
      rcases Nat.lt_trichotomy i j with h1 | h1 | h1
      · have h2 := key i j (by simpa using hi) (by simpa using hj) h1
        rw [List.getElem_map, List.getElem_map, e1, e2] at h2
        exact absurd rfl h2
      · subst h1; rw [e1] at e2; exact congrArg Prod.snd e2
      · have h2 := key j i (by simpa using hj) (by simpa using hi) h1
        rw [List.getElem_map, List.getElem_map, e1, e2] at h2
        exact absurd rfl h2
    rw [this]; exact hput
  · rw [if_neg hk]
    refine (h.inn k n hn).but hb (fun e => hk ?_)
    subst e
    obtain ⟨i, hi, e1⟩ := List.getElem_of_mem hn
    obtain ⟨j, hj, e2⟩ := List.getElem_of_mem hx
    have key := List.pairwise_iff_getElem.1 h.nv
    rcases Nat.lt_trichotomy i j with h1 | h1 | h1
    · have h2 := key i j (by simpa using hi) (by simpa using hj) h1
      rw [List.getElem_map, List.getElem_map, e1, e2] at h2
      exact absurd rfl h2
    · subst h1; rw [e1] at e2; exact congrArg Prod.fst e2
    · have h2 := key j i (by simpa using hj) (by simpa using hi) h1
      rw [List.getElem_map, List.getElem_map, e1, e2] at h2
      exact absurd rfl h2
end
theorem infoQKey : (Tryd.prog.info? 48).map (fun i => (i.zero, i.size, i.bytes)) = some (some (.agg #[.int .i64 0, .int .i64 0]), 2, 16) := by kernel_rfl
theorem own_empty (w : World) (e : TypeId) (size base : Nat) (hb : base ≤ w.heap.size) (hs : 0 < size) : (w.alloc (.cells #[] e)).ownsRow base e size (.slice (some ⟨w.heap.size, 0, none⟩) 0 0) 0 [] :=
  ⟨by simp, .inr ⟨w.heap.size, 0, #[], rfl, hb, (MapKept.heap_alloc w _).1, Nat.le_refl _, Nat.zero_le _, by simp, by simp⟩⟩
set_option maxRecDepth 100000 in
set_option maxHeartbeats 2000000 in
theorem cloneK_calls (ks : List Key) (A : Option Addr) (c : Nat) (w : World) (hr : Reads w w.heap.size 2 A ks.length (keysC ks)) (hA : A = none → ks = [] ∧ c = 0) (hlen : ks.length ≤ 8796093030000) :
    Calls Tryd.prog 38 #[.slice A ks.length c] w
      fun e w' => ∃ v, e = .returned v ∧ w'.ownsRow w.heap.size 48 2 v ks.length (keysC ks) ∧ Below w.heap.size w w' := by
  obtain ⟨i0, hi0, hz0, hz1, hz2⟩ := info_parts infoQKey
  have heq := fun W => run_eql_slice_nil (P := Tryd.prog) W _ _ A ks.length c Tryd.underlying31
  cases A with
  | none =>
    obtain ⟨rfl, rfl⟩ := hA rfl
    have heq2 : ∀ W, (binOp .eql 31 (.slice none 0 0) (.slice none 0 0)).run Tryd.prog W = .ok (.bool true) W := fun W => run_eql_slice_nil (P := Tryd.prog) W _ _ none 0 0 Tryd.underlying31
    clear heq
    go_enter Tryd.func38, Tryd.ntmps38
    go_wp2
    go_ret
    exact ⟨_, rfl, World.ownsRow_nil _ _ _ _, Below.refl _ _⟩
  | some ad =>
    have hl : (keysC ks).length = ks.length * 2 := hr.1
    have hc : ∀ j u, (keysC ks)[j]? = some u → w.cell? (ad.add j) = some u := by
      intro j u hu
      rcases Nat.eq_zero_or_pos ks.length with h0 | h0
      · have : ks = [] := List.eq_nil_of_length_eq_zero h0
        subst this
        simp [keysC] at hu
      · obtain ⟨ad2, e, _, h2⟩ := hr.2 h0
        cases e
        exact h2 j u hu
    have HC := Lib.hid hc
    have HL := Lib.hid hl
    clear hr hc hl hA
    go_enter Tryd.func38, Tryd.ntmps38
    go_wp2_with (first | (at_builtin; refine wpList_append_wide_at _ rfl (.tmp 5) (.tmp 6) 31 rfl w.heap.size 48 i0 _ 2 16 Tryd.underlying31 hi0 hz0 hz1 hz2 rfl (by decide) _ 0 [] rfl (own_empty w _ _ _ (Nat.le_refl _) (by decide)) ad ks.length c (keysC ks) rfl HL.out (fun j u hu => cell_alloc (HC.out j u hu) _) ?_ ?_ ?_ ?_ ?_; (intro u hu; obtain ⟨q, _, hq⟩ := List.mem_flatMap.1 hu; simp only [Key.cs, List.mem_cons, List.not_mem_nil, or_false] at hq; rcases hq with rfl | rfl <;> rfl); (unfold maxLen; omega); (omega); (simp); intro v2 w2 hown2 hg2 _ _))
    go_ret
    refine ⟨_, rfl, by simpa using hown2, ?_⟩
    exact ((Below.refl _ _).alloc (Nat.le_refl _) _).grown hg2 (by simp) (fun k hk => by cases hk; exact Nat.le_refl _)

def roomQ (room : Int) : Int := if room < 0 then 0 else room
theorem newQ_mem (w : World) (n : Int) :
    QAt (((w.alloc (.map #[] 0)).alloc (.map #[] 0)).alloc (.cells #[.int .i64 n, .int .i64 0, .slice none 0 0, .map (some w.heap.size), .map (some (w.heap.size + 1))] 61)) (w.heap.size + 1 + 1) n 0 (.slice none 0 0) w.heap.size (w.heap.size + 1) [] [] := by
  have s1 : ∀ (v : World) (o : Obj), (v.alloc o).heap.size = v.heap.size + 1 := fun v o => by simp
  have m0 := MapT.new w eI eP
  have m1 := MapT.new (w.alloc (.map #[] 0)) eK eM
  have b := Blk.new ((w.alloc (.map #[] 0)).alloc (.map #[] 0)) 61 #[.int .i64 n, .int .i64 0, .slice none 0 0, .map (some w.heap.size), .map (some (w.heap.size + 1))]
  rw [s1] at m1
  rw [s1, s1] at b
  have al : ∀ {v : World} {o : Obj}, Below v.heap.size v (v.alloc o) := fun {v o} => (Below.refl _ _).alloc (Nat.le_refl _) _
  refine ⟨b, World.ownsRow_nil _ _ _ _, fun e he => by simp at he, fun e he => by simp at he, (m0.below al).below al, ⟨m1.below al, fun k m hm => by simp at hm, fun k => ?_, by simp, by simp, fun k m hm => by simp at hm⟩, by omega, fun k m hm => by simp at hm, by simp, by simp, fun e he => by simp at he⟩
  simp [waitsL]
set_option maxRecDepth 100000 in
set_option maxHeartbeats 2000000 in
theorem newQ_calls (room : Int) (w : World) : Calls Tryd.prog 5 #[.int .i64 room] w
    fun e w' => ∃ p bi bw, e = .returned (eP p) ∧ QAt w' p (roomQ room) 0 (.slice none 0 0) bi bw [] [] ∧ Below w.heap.size w w' ∧ ∀ i, OfQ p (.slice none 0 0) bi bw [] [] i → w.heap.size ≤ i := by
  have hmm := @run_makeMap Tryd.prog
  have hm0 := newQ_mem w 0
  have hmr := newQ_mem w room
  have hbel : ∀ o1 o2 o3 : Obj, Below w.heap.size w (((w.alloc o1).alloc o2).alloc o3) := fun o1 o2 o3 => (((Below.refl _ _).alloc (Nat.le_refl _) _).alloc (by simp) _).alloc (by simp; omega) _
  have hof : ∀ i, OfQ (w.heap.size + 1 + 1) (.slice none 0 0) w.heap.size (w.heap.size + 1) [] [] i → w.heap.size ≤ i := by
    rintro i (rfl | hi | rfl | rfl | ⟨e, he, _⟩ | ⟨k, hk⟩)
    · omega
    · cases hi
    · omega
    · omega
    · simp at he
    · simp at hk
  have HM0 := Lib.hid hm0
  have HMR := Lib.hid hmr
  have HBE := Lib.hid hbel
  have HOF := Lib.hid hof
  clear hm0 hmr hbel hof
  go_enter Tryd.func5, Tryd.ntmps5
  go_wp2
  all_goals
    go_ret
    first
      | (rw [show roomQ room = 0 by unfold roomQ; split <;> omega]; first | exact ⟨w.heap.size + 1 + 1, _, _, rfl, HM0.out, HBE.out _ _ _, HOF.out⟩ | exact ⟨w.heap.size + 1 + 1, rfl, _, _, HM0.out, HBE.out _ _ _, HOF.out⟩)
      | (rw [show roomQ room = room by unfold roomQ; split <;> omega]; first | exact ⟨w.heap.size + 1 + 1, _, _, rfl, HMR.out, HBE.out _ _ _, HOF.out⟩ | exact ⟨w.heap.size + 1 + 1, rfl, _, _, HMR.out, HBE.out _ _ _, HOF.out⟩)
end Go.Proofs.YtmcknfpohnobdaaDoor
