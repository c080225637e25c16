/- guard's reader of pairs, by contracts. -/
import Derived.Test.YtmdkcggmnejkoaaDoorDecode2
namespace Go.Proofs.YtmdkcggmnejkoaaDoor
set_option linter.unusedSimpArgs false
set_option linter.unusedVariables false
open Go.RowKit Go.Proofs.YtmdkcggmnejkoaaDoorW.PrintLast

def keys2 : List Int → Option (List Key)
  | [] => some []
  | x :: y :: r => (keys2 r).map (⟨x, y⟩ :: ·)
  | _ => none
theorem infoKey : (Tryd.prog.info? 47).map (fun i => (i.zero, i.size, i.bytes)) = some (some (.agg #[.int .i64 0, .int .i64 0]), 2, 16) := by kernel_rfl
theorem Two.fresh {w w1 w2 : World} {a b g : Nat} (h : Two w w1 a b) (k : Two w1 w2 a g) (hg : w.heap.size ≤ g) : Two w w2 a b :=
  ⟨k.os.trans h.os, k.tape.trans h.tape, k.output.trans h.output, Nat.le_trans h.size k.size, fun i hi ha hb => (k.block i (Nat.lt_of_lt_of_le hi h.size) ha (by omega)).trans (h.block i hi ha hb)⟩
theorem own_two {w w1 : World} {a b base : Nat} {e : TypeId} {size n : Nat} {v : Value} {xs : List Value} (h : w.ownsRow base e size v n xs) (k : Two w w1 a b) (ha : v.ownBlock ≠ some a) (hb : v.ownBlock ≠ some b) : w1.ownsRow base e size v n xs := by
  obtain ⟨h1, h2⟩ := h
  refine ⟨h1, ?_⟩
  rcases h2 with h2 | ⟨g, cap, cur, hv, hg, hh, r⟩
  · exact .inl h2
  · refine .inr ⟨g, cap, cur, hv, hg, ?_, r⟩
    have hlt : g < w.heap.size := (Array.getElem?_eq_some_iff.1 hh).1
    subst hv
    rw [k.block g hlt (fun e => ha (by simp [Value.ownBlock, e])) (fun e => hb (by simp [Value.ownBlock, e]))]
    exact hh

theorem own_lt {w : World} {base : Nat} {e : TypeId} {size n : Nat} {v : Value} {xs : List Value} (h : w.ownsRow base e size v n xs) {k : Nat} (hk : v.ownBlock = some k) : k < w.heap.size := by
  rcases h.2 with ⟨rfl, _⟩ | ⟨g, cap, cur, rfl, _, hh, _⟩
  · simp [Value.ownBlock] at hk
  · have : g = k := by simpa [Value.ownBlock] using hk
    subst this
    exact (Array.getElem?_eq_some_iff.1 hh).1

def PairsTo (w : World) (gr go B : Nat) (c0 a b q n i : Int) (L : Value) (ks : List Key) (e : Ending) (w' : World) : Prop :=
  e = .returned (.bool true) ∧ RowAt w' gr B [] ∧ Two w w' gr go ∧ ∃ v, w'.ownsRow w.heap.size 47 2 v ks.length (keysC ks) ∧ Blk w' go 33 (opCs c0 a b q n i L v)
def PairsPost (w : World) (gr go B : Nat) (c0 a b q n i : Int) (L : Value) (rest : List Int) (e : Ending) (w' : World) : Prop :=
  match keys2 rest with
  | some ks => PairsTo w gr go B c0 a b q n i L ks e w'
  | none => FailTo w gr go e w'
theorem PairsPost.ok {w w' : World} {gr go B : Nat} {c0 a b q n i : Int} {L : Value} {rest : List Int} {ks : List Key} {e : Ending} (h : keys2 rest = some ks) (k : PairsTo w gr go B c0 a b q n i L ks e w') : PairsPost w gr go B c0 a b q n i L rest e w' := by
  unfold PairsPost; rw [h]; exact k
theorem PairsPost.no {w w' : World} {gr go B : Nat} {c0 a b q n i : Int} {L : Value} {rest : List Int} {e : Ending} (h : keys2 rest = none) (k : FailTo w gr go e w') : PairsPost w gr go B c0 a b q n i L rest e w' := by
  unfold PairsPost; rw [h]; exact k

set_option maxRecDepth 100000 in
set_option maxHeartbeats 8000000 in
theorem pairs_calls (gr go B : Nat) (c0 a b q n i : Int) (L : Value) (rest : List Int) (w : World) (h : RowAt w gr B rest) (hg : Blk w go 33 (opCs c0 a b q n i L (.slice none 0 0))) (hB : B ≤ gr) (hB2 : B ≤ go) (hne : go ≠ gr)
    (hlen : rest.length ≤ 17592186044416) :
    Calls Tryd.prog 77 #[.pointer (some ⟨gr, 0, none⟩), .pointer (some ⟨go, 0, none⟩)] w (PairsPost w gr go B c0 a b q n i L rest) := by
  obtain ⟨i0, hi0, hz0, hz1, hz2⟩ := info_parts infoKey
  have hgrlt := h.lt
  have hgolt := hg.lt
  go_enter Tryd.func77, Tryd.ntmps77
  go_wp2_with (fail)
  go_loopg [] rest.length (fun g wr => ∃ (done : List Key) (rem : List Int) (v : Value), g = rem.length ∧ rem.length + 2 * done.length = rest.length ∧ (keys2 rem).map (done ++ ·) = keys2 rest ∧ RowAt wr gr B rem ∧ Two w wr gr go ∧ wr.ownsRow w.heap.size 47 2 v done.length (keysC done) ∧ Blk wr go 33 (opCs c0 a b q n i L v))
  case atStart => exact ⟨[], rest, _, rfl, rfl, by cases keys2 rest <;> rfl, h, Two.refl _ _ _, World.ownsRow_nil _ _ _ _, hg⟩
  case round =>
    clear h hg
    obtain ⟨done, rem, v, hgk, hln, hps, hrow, htw, hown, hblk⟩ := hrel
    have HPS := Lib.hid hps
    have HLN := Lib.hid hln
    have HGK := Lib.hid hgk
    clear hps hln hgk
    match rem, hrow, HPS, HLN, HGK with
    | [], hrow, HPS, HLN, HGK =>
      have hr := hrow
      obtain ⟨A, c, hb, _, _⟩ := hr
      have hc : wr.cell? ⟨gr, 0, none⟩ = some (.slice A 0 c) := hb.cell 0
      clear hb
      go_wp2
      go_ret
      have e : keys2 rest = some done := by rw [← HPS.out]; simp [keys2]
      exact PairsPost.ok e ⟨rfl, hrow, htw, v, hown, hblk⟩
    | [x], hrow, HPS, _, _ =>
      have hr0 := hrow
      obtain ⟨A, c, hb, _, _⟩ := hr0
      have hc : wr.cell? ⟨gr, 0, none⟩ = some (.slice A 1 c) := hb.cell 0
      clear hb
      have lw : w.heap.size ≤ wr.heap.size := htw.size
      have hkn : wr.heap.size ≠ gr := by omega
      have hra : RowAt (wr.alloc (Obj.cells #[.int .i64 0, .int .i64 0] 47)) gr B [x] := hrow.below ((Below.refl _ _).alloc (Nat.le_refl _) _) (by omega)
      have hz : Blk (wr.alloc (Obj.cells #[.int .i64 0, .int .i64 0] 47)) wr.heap.size 47 #[.int .i64 0, .int .i64 0] := Blk.new _ _ _
      go_wp2_with (fail)
      refine (field_cons gr wr.heap.size B 0 _ _ 0 x [] _ hra hz rfl hB (by omega) hkn).mono ?_
      rintro e w1 ⟨rfl, hr1, hg1, ht1, hs1⟩
      go_wp2_with (fail)
      refine (field_nil gr wr.heap.size B 1 _ _ 0 w1 hr1 hg1 rfl (by omega) hkn).mono ?_
      rintro e w2 ⟨rfl, hr2, hg2, ht2, hs2⟩
      go_wp2
      go_ret
      exact PairsPost.no (by rw [← HPS.out]; rfl) ⟨rfl, Two.fresh htw (((Two.refl wr gr wr.heap.size).alloc _).trans (ht1.trans ht2)) lw⟩
    | x :: y :: r, hrow, HPS, HLN, HGK =>
      have hbl := HLN.out
      simp only [List.length_cons] at hbl
      have hr0 := hrow
      obtain ⟨A, c, hb, hcap, hr⟩ := hr0
      have hlen5 : (x :: y :: r).length = r.length + 2 := rfl
      rw [hlen5] at hb hcap hr
      have hc : wr.cell? ⟨gr, 0, none⟩ = some (.slice A (r.length + 2) c) := hb.cell 0
      clear hb hr hlen5
      have lw : w.heap.size ≤ wr.heap.size := htw.size
      obtain ⟨kb, hkb⟩ : ∃ kb, wr.heap.size = kb := ⟨_, rfl⟩
      have hkn : kb ≠ gr := by omega
      have hkg : go ≠ kb := by omega
      have hkB : B ≤ kb := by omega
      obtain ⟨W1, hW1⟩ : ∃ W1, wr.alloc (Obj.cells #[.int .i64 0, .int .i64 0] 47) = W1 := ⟨_, rfl⟩
      have hra : RowAt W1 gr B (x :: y :: r) := by rw [← hW1]; exact hrow.below ((Below.refl _ _).alloc (Nat.le_refl _) _) (by omega)
      have hz : Blk W1 kb 47 #[.int .i64 0, .int .i64 0] := by rw [← hW1, ← hkb]; exact Blk.new _ _ _
      have ht0 : Two wr W1 gr kb := by rw [← hW1]; exact (Two.refl _ _ _).alloc _
      have hs0 : W1.heap.size = kb + 1 := by rw [← hW1, ← hkb]; simp
      go_wp2_with (fail)
      refine (field_cons gr kb B 0 _ _ 0 x (y :: r) W1 hra hz rfl hB hkB hkn).mono ?_
      rintro e w1 ⟨rfl, hr1, hg1, ht1, hs1⟩
      go_wp2_with (fail)
      refine (field_cons gr kb B 1 _ _ 0 y r w1 hr1 hg1 rfl hB hkB hkn).mono ?_
      rintro e w2 ⟨rfl, hr2, hg2, ht2, hs2⟩
      have hkl : ∀ k, v.ownBlock = some k → w.heap.size ≤ k := fun k hk => own_base hown hk
      have hku : ∀ k, v.ownBlock = some k → k < kb := fun k hk => by rw [← hkb]; exact own_lt hown hk
      have T : Two wr w2 gr kb := ht0.trans (ht1.trans ht2)
      have htw2 : Two w w2 gr go := htw.fresh T (by omega)
      have hb2 : Blk w2 go 33 (opCs c0 a b q n i L v) := T.blk hblk hne hkg
      have hown2 := own_two hown T (fun e => by have := hkl _ e; omega) (fun e => by have := hku _ e; omega)
      clear hown hblk hrow htw hW1 ht0 ht1 ht2 T hc hra hz hr1 hg1
      have lk : kb < w2.heap.size := hg2.lt
      have hv : w2.cell? ⟨go, 7, none⟩ = some v := hb2.cell 7
      have k0 : w2.cell? ⟨kb, 0, none⟩ = some (.int .i64 x) := hg2.cell 0
      have k1 : w2.cell? ⟨kb, 1, none⟩ = some (.int .i64 y) := hg2.cell 1
      have hfa : ∀ o, (w2.drew.alloc o).frozen? ⟨go, 7, none⟩ = false := fun o => ((hb2.drew).alloc o).frozen 7
      have lo : go < w2.heap.size := hb2.lt
      have ao : v.ownBlock ≠ some go := fun e => by have := hkl _ e; omega
      have ak : v.ownBlock ≠ some kb := fun e => by have := hku _ e; omega
      have ag : v.ownBlock ≠ some gr := fun e => by have := hkl _ e; omega
      have hmax : done.length + 1 ≤ maxLen := by simp only [maxLen]; omega
      have hby : (done.length + 1) * 16 ≤ 140737488355328 := by omega
      have HR := Lib.hid hr2
      have HK := Lib.hid hb2
      have HT := Lib.hid htw2
      have hsz : w2.heap.size = kb + 1 := by omega
      have HS := Lib.hid hsz
      clear hr2 hb2 htw2 hg2 hsz hs0 hs1 hs2
      go_wp2_with (fail)
      refine start_ (n := 11) (S := fun w' => w'.cell? ⟨go, 7, none⟩ = some v ∧ w'.cell? ⟨kb, 0, none⟩ = some (.int .i64 x) ∧ w'.cell? ⟨kb, 1, none⟩ = some (.int .i64 y)) (ds := [10]) #[false, false, false, false, false, false, false, false, false, false, false] (by kernel_rfl) rfl rfl ⟨hv, k0, k1⟩ (fun hHeld => ?_)
      refine pure_ (i := 0) (N := some 22) (v := ?_) (a' := ?_) #[true, false, false, false, false, false, false, false, false, false, false] rfl rfl (by kernel_rfl) (fun _ _ _ h => h) (Or.inl ⟨by rfl, ?_⟩) ?_ ?_
      rotate_left
      · intro w'
        go_simp
        with_reducible rfl
      rotate_left
      · simp only [Act.put, List.setIfInBounds_toArray, List.set_cons_zero, List.set_cons_succ, i64_w, i32_w]
        rfl
      refine pure_ (i := 1) (N := some 23) (v := ?_) (a' := ?_) #[true, true, false, false, false, false, false, false, false, false, false] rfl rfl (by kernel_rfl) (fun _ _ _ h => h) (Or.inl ⟨by rfl, ?_⟩) ?_ ?_
      rotate_left
      · intro w'
        go_simp
        with_reducible rfl
      rotate_left
      · simp only [Act.put, List.setIfInBounds_toArray, List.set_cons_zero, List.set_cons_succ, i64_w, i32_w]
        rfl
      refine pure_ (i := 2) (N := some 24) (v := ?_) (a' := ?_) #[true, true, true, false, false, false, false, false, false, false, false] rfl rfl (by kernel_rfl) (fun _ _ _ h => h) (Or.inl ⟨by rfl, ?_⟩) ?_ ?_
      rotate_left
      · intro w'
        go_simp
        with_reducible rfl
      rotate_left
      · simp only [Act.put, List.setIfInBounds_toArray, List.set_cons_zero, List.set_cons_succ, i64_w, i32_w]
        rfl
      refine pure_ (i := 3) (N := some 25) (v := ?_) (a' := ?_) #[true, true, true, true, false, false, false, false, false, false, false] rfl rfl (by kernel_rfl) (fun _ _ _ h => h) (Or.inl ⟨by rfl, ?_⟩) ?_ ?_
      rotate_left
      · intro w'
        go_simp
        with_reducible rfl
      rotate_left
      · simp only [Act.put, List.setIfInBounds_toArray, List.set_cons_zero, List.set_cons_succ, i64_w, i32_w]
        rfl
      refine take_ (i := 4) (N := some 26) (v := ?_) (a' := ?_) #[true, true, true, true, true, false, false, false, false, false, false] rfl rfl (by kernel_rfl) (fun _ _ _ h => h) (Or.inl ⟨by rfl, ?_⟩) hHeld ?_ ?_
      rotate_left
      · rintro w' ⟨s0, s1, s2⟩
        go_simp
        with_reducible rfl
      rotate_left
      · simp only [Act.put, List.setIfInBounds_toArray, List.set_cons_zero, List.set_cons_succ, i64_w, i32_w]
        rfl
      refine take_ (i := 5) (N := some 27) (v := ?_) (a' := ?_) #[true, true, true, true, true, true, false, false, false, false, false] rfl rfl (by kernel_rfl) (fun _ _ _ h => h) (Or.inl ⟨by rfl, ?_⟩) hHeld ?_ ?_
      rotate_left
      · rintro w' ⟨s0, s1, s2⟩
        go_simp
        with_reducible rfl
      rotate_left
      · simp only [Act.put, List.setIfInBounds_toArray, List.set_cons_zero, List.set_cons_succ, i64_w, i32_w]
        rfl
      refine one_ (i := 6) (N := some 28) #[true, true, true, true, true, true, true, false, false, false, false] rfl rfl (by kernel_rfl) (by decide) (fun K hK => ?_)
      refine value_ (w1 := ?_) (v := ?_) (by rfl) rfl ?_ ?_
      rotate_left 2
      · go_simp
        constructor
        · rfl
        · rfl
      refine hK.out _ _ ⟨cell_alloc (w := w2.drew) hv _, cell_alloc (w := w2.drew) k0 _, cell_alloc (w := w2.drew) k1 _⟩ (fun hHeld => ?_)
      clear hK K
      refine norm_ (a' := ?_) ?_ ?_
      rotate_left
      · show Act.put _ (some 28) _ = _
        simp only [Act.put, List.setIfInBounds_toArray, List.set_cons_zero, List.set_cons_succ, i64_w, i32_w]
        rfl
      refine one_ (i := 7) (N := some 29) #[true, true, true, true, true, true, true, true, false, false, false] rfl rfl (by kernel_rfl) (by decide) (fun K hK => ?_)
      refine step_append_lies _ (by rfl) _ _ _ (by rfl) w.heap.size 47 i0 _ 2 16 (by kernel_rfl) hi0 hz0 hz1 hz2 rfl (by omega) v done.length (keysC done) (by rfl) ((hown2.drew).alloc _)
        ⟨w2.heap.size, 0, none⟩ 1 1 [.int .i64 x, .int .i64 y] (by rfl) (by rfl) (World.news_of_block (cs := #[.int .i64 x, .int .i64 y]) (t := 47) (fr := (0, 0)) (heap_alloc_new w2.drew _)) (by simp [Value.oneCell'])
        (by omega) hmax hby (by simp; omega) (w2.heap.size + 1) (by simp) ?_
      intro gg cap wa hown1 hgrow hat hlt
      have hva : wa.cell? ⟨go, 7, none⟩ = some v := (hgrow.cell_far ⟨go, 7, none⟩ (by simp; omega) (Ne.symm ao)).trans (cell_alloc (w := w2.drew) hv _)
      have hfz6 : wa.frozen? ⟨go, 7, none⟩ = false := (hgrow.frozen_far ⟨go, 7, none⟩ (by simp; omega) (Ne.symm ao)).trans (hfa _)
      refine hK.out _ _ ⟨(hgrow.cell_far ⟨go, 7, none⟩ (by simp; omega) (Ne.symm ao)).trans (cell_alloc (w := w2.drew) hv _), (hgrow.cell_far ⟨kb, 0, none⟩ (by simp; omega) (Ne.symm ak)).trans (cell_alloc (w := w2.drew) k0 _), (hgrow.cell_far ⟨kb, 1, none⟩ (by simp; omega) (Ne.symm ak)).trans (cell_alloc (w := w2.drew) k1 _)⟩ (fun hHeld => ?_)
      clear hK K
      refine norm_ (a' := ?_) ?_ ?_
      rotate_left
      · show Act.put _ (some 29) _ = _
        simp only [Act.put, List.setIfInBounds_toArray, List.set_cons_zero, List.set_cons_succ, i64_w, i32_w]
        rfl
      refine pure_ (i := 8) (N := some 30) (v := ?_) (a' := ?_) #[true, true, true, true, true, true, true, true, true, false, false] rfl rfl (by kernel_rfl) (fun _ _ _ h => h) (Or.inl ⟨by rfl, ?_⟩) ?_ ?_
      rotate_left
      · intro w'
        go_simp
        with_reducible rfl
      rotate_left
      · simp only [Act.put, List.setIfInBounds_toArray, List.set_cons_zero, List.set_cons_succ, i64_w, i32_w]
        rfl
      refine pure_ (i := 9) (N := some 31) (v := ?_) (a' := ?_) #[true, true, true, true, true, true, true, true, true, true, false] rfl rfl (by kernel_rfl) (fun _ _ _ h => h) (Or.inl ⟨by rfl, ?_⟩) ?_ ?_
      rotate_left
      · intro w'
        go_simp
        with_reducible rfl
      rotate_left
      · simp only [Act.put, List.setIfInBounds_toArray, List.set_cons_zero, List.set_cons_succ, i64_w, i32_w]
        rfl
      refine last_ (i := 10) (N := none) #[true, true, true, true, true, true, true, true, true, true, true] rfl rfl (by kernel_rfl) (by decide) (fun K hK => ?_)
      refine skip_ (w1 := ?_) (by rfl) rfl ?_ ?_
      rotate_left
      · go_simp
        rfl
      refine hK.out _ _ ?_
      clear hK K
      refine done_ (by kernel_rfl) ?_
      obtain ⟨W2, hW2⟩ : ∃ W2, wa.setCell ⟨go, 7, none⟩ (.slice (some ⟨gg, 0, none⟩) (done.length + 1) cap) = W2 := ⟨_, rfl⟩
      have hbase : ∀ k, v.ownBlock = some k → w.heap.size ≤ k := fun k hk => hkl k hk
      have hgb : Blk wa go 33 (opCs c0 a b q n i L v) := ((HK.out.drew).alloc _).grown hgrow (Ne.symm ao)
      have hra : RowAt wa gr B r := (RowAt.below HR.out ((Below.refl _ w2).drew.alloc (Nat.le_refl _) _) (by omega)).grown hgrow (Ne.symm ag) (by simp; omega) (fun k hk => by have := hbase k hk; omega)
      have hta : Two w wa gr go := ((Two.alloc (w1 := w2.drew) ⟨HT.out.os, HT.out.tape, HT.out.output, HT.out.size, HT.out.block⟩ _)).grown hgrow hbase
      have hgb2 : Blk W2 go 33 (opCs c0 a b q n i L (.slice (some ⟨gg, 0, none⟩) (done.length + 1) cap)) := by rw [← hW2]; exact hgb.set_ 7 _
      have hra2 : RowAt W2 gr B r := by rw [← hW2]; exact hra.far hne hB2 _
      have hta2 : Two w W2 gr go := by rw [← hW2]; exact hta.set_ (.inr (.inl rfl)) _
      have how2 : W2.ownsRow w.heap.size 47 2 (.slice (some ⟨gg, 0, none⟩) (done.length + 1) cap) (done.length + 1) (keysC done ++ [.int .i64 x, .int .i64 y]) := by
        rw [← hW2]; exact ownsRow_setCell_below hown1 (by show go < _; omega) _
      rw [hW2]
      have H1 := Lib.hid hgb2
      have H2 := Lib.hid hra2
      have H4 := Lib.hid hta2
      have H5 := Lib.hid how2
      clear hW2 hgb hra hta hgb2 hra2 hta2 how2 hown1 hgrow hat hlt hva hfz6 hfa hv k0 k1
      go_wp2
      go_roundg r.length
      case measure => have h := HGK.out; simp only [List.length_cons] at h; omega
      case rel =>
        refine ⟨done ++ [⟨x, y⟩], r, _, rfl, ?_, ?_, H2.out, H4.out, ?_, H1.out⟩
        · rw [List.length_append, List.length_singleton]; omega
        · rw [← HPS.out]; simp only [keys2, Option.map_map]; congr 1; funext l; simp
        · have e1 : (done ++ [(⟨x, y⟩ : Key)]).length = done.length + 1 := by simp
          have e2 : keysC (done ++ [(⟨x, y⟩ : Key)]) = keysC done ++ [.int .i64 x, .int .i64 y] := by simp [keysC, Key.cs]
          rw [e1, e2]
          exact H5.out
end Go.Proofs.YtmdkcggmnejkoaaDoor
