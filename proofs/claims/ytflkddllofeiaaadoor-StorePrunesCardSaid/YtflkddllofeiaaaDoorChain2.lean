/- Chains of texts: what their calls write. -/
import Derived.Test.YtflkddllofeiaaaDoorWide
import Derived.Test.YtflkddllofeiaaaDoorChain
import Derived.Test.YtflkddllofeiaaaDoorPlain
namespace Go.Proofs.YtflkddllofeiaaaDoor
set_option linter.unusedSimpArgs false
set_option linter.unusedVariables false
open Go.RowKit

/-- Nothing that lay before has turned, but the blocks of S. -/
structure But (w w' : World) (S : Nat → Prop) : Prop where
  os : w'.os = w.os
  tape : w'.tape = w.tape
  output : w'.output = w.output
  size : w.heap.size ≤ w'.heap.size
  block : ∀ k, k < w.heap.size → ¬ S k → w'.heap[k]? = w.heap[k]?
section
variable {a b c w w' : World} {S S' : Nat → Prop}
theorem But.refl (w : World) (S : Nat → Prop) : But w w S := ⟨rfl, rfl, rfl, Nat.le_refl _, fun _ _ _ => rfl⟩
theorem But.of_below (h : Below w.heap.size w w') (S : Nat → Prop) : But w w' S := ⟨h.os, h.tape, h.output, h.size, fun k hk _ => h.block k hk⟩
theorem But.below (h : But w w' (fun _ => False)) : Below w.heap.size w w' := ⟨h.os, h.tape, h.output, h.size, fun k hk => h.block k hk (fun h => h)⟩
theorem But.trans (h : But a b S) (k : But b c S') (hS : ∀ i, i < a.heap.size → S' i → S i) : But a c S :=
  ⟨k.os.trans h.os, k.tape.trans h.tape, k.output.trans h.output, Nat.le_trans h.size k.size, fun i hi hn => (k.block i (Nat.lt_of_lt_of_le hi h.size) (fun hs => hn (hS i hi hs))).trans (h.block i hi hn)⟩
theorem But.weak (h : But a b S) (hS : ∀ i, i < a.heap.size → S i → S' i) : But a b S' := ⟨h.os, h.tape, h.output, h.size, fun i hi hn => h.block i hi (fun hs => hn (hS i hi hs))⟩
theorem But.grown {row : Option Nat} (h : But a b S) (hg : b.grownBy c row) (hr : ∀ i, i < a.heap.size → row = some i → S i) : But a c S :=
  ⟨hg.os.trans h.os, hg.tape.trans h.tape, hg.output.trans h.output, Nat.le_trans h.size hg.size, fun i hi hn => (hg.block i (Nat.lt_of_lt_of_le hi h.size) (fun e => hn (hr i hi e.symm))).trans (h.block i hi hn)⟩
theorem But.alloc (h : But a b S) (o : Obj) : But a (b.alloc o) S := h.trans (S' := S) (But.of_below ((Below.refl _ _).alloc (Nat.le_refl _) _) S) (fun _ _ h => h)
theorem But.setCell (h : But a b S) {p : Addr} (hp : p.block < a.heap.size → S p.block) (u : Value) : But a (b.setCell p u) S :=
  ⟨h.os, h.tape, h.output, by simpa using h.size, fun i hi hn => by
    have hne : i ≠ p.block := fun he => hn (he ▸ hp (he ▸ hi))
    exact (Below.heap_setCell b p u i hne).trans (h.block i hi hn)⟩
theorem Blk.but {g : Nat} {t : TypeId} {cs : Array Value} (h : Blk w g t cs) (hb : But w w' S) (hg : ¬ S g) : Blk w' g t cs := (hb.block g h.lt hg).trans h
theorem own_but {base : Nat} {e : TypeId} {size n : Nat} {v : Value} {xs : List Value} (h : w.ownsRow base e size v n xs) (hb : But w w' S) (hs : ∀ b, v.ownBlock = some b → ¬ S b) : w'.ownsRow base e size v n xs := by
  refine ⟨h.1, ?_⟩
  rcases h.2 with h0 | ⟨g, cap, cur, rfl, h1, h2, h3⟩
  · exact .inl h0
  · exact .inr ⟨g, cap, cur, rfl, h1, (hb.block g (Array.getElem?_eq_some_iff.1 h2).1 (hs g rfl)).trans h2, h3⟩
theorem own_lt {base : Nat} {e : TypeId} {size n : Nat} {v : Value} {xs : List Value} (h : w.ownsRow base e size v n xs) {k : Nat} (hk : v.ownBlock = some k) : k < w.heap.size := by
  rcases h.2 with h0 | ⟨g, cap, cur, rfl, h1, h2, h3⟩
  · rw [h0.1] at hk; cases hk
  · cases hk; exact (Array.getElem?_eq_some_iff.1 h2).1
end

/-- The blocks of a chain. -/
def OfC (p : Nat) (sv : Value) (i : Nat) : Prop := i = p ∨ sv.ownBlock = some i
section
variable {w w' : World} {S : Nat → Prop} {p : Nat} {sv : Value} {L : List VerS}
theorem Chn.but (h : Chn w p sv L) (hb : But w w' S) (hS : ∀ i, OfC p sv i → ¬ S i) : Chn w' p sv L :=
  ⟨h.blk.but hb (hS p (.inl rfl)), own_but h.row hb (fun b he => hS b (.inr he)), h.up, h.len⟩
theorem Chn.of_lt (h : Chn w p sv L) {i : Nat} (hi : OfC p sv i) : i < w.heap.size := by
  rcases hi with rfl | hi
  · exact h.blk.lt
  · exact own_lt h.row hi
end
theorem infoVers : (Tryd.prog.info? 86).map (fun i => (i.zero, i.size, i.bytes)) = some (some (.agg #[.int .i64 0, .string ⟨#[]⟩]), 2, 24) := by kernel_rfl

set_option maxRecDepth 100000 in
set_option maxHeartbeats 2000000 in
theorem newChain_calls (w : World) : Calls Tryd.prog 36 #[] w fun e w' => e = .returned (.pointer (some ⟨w.heap.size, 0, none⟩)) ∧ Chn w' w.heap.size (.slice none 0 0) [] ∧ Below w.heap.size w w' := by
  go_enter Tryd.func36, Tryd.ntmps36
  go_wp2
  go_ret
  exact ⟨rfl, ⟨Blk.new _ _ _, World.ownsRow_nil _ _ _ _, UpV.nil, by simp⟩, (Below.refl _ _).alloc (Nat.le_refl _) _⟩

theorem put_done {w w2 : World} {p : Nat} {sv sv' : Value} {L : List VerS} {x : VerS} {o : Obj} (h : Chn w p sv L) (hown : w2.ownsRow 0 86 2 sv' (L.length + 1) (versC L ++ VerS.cs x)) (hg : (w.alloc o).grownBy w2 sv.ownBlock)
    (hat : sv'.ownBlock = sv.ownBlock ∨ sv'.ownBlock = some (w.alloc o).heap.size) (hk : Blk w2 p 88 #[sv]) (hx : lastNo L < x.n) (h0 : 0 ≤ x.n) (hlen : L.length < 9382499223000) :
    Chn (w2.setCell ⟨p, 0, none⟩ sv') p sv' (L ++ [x]) ∧ But w (w2.setCell ⟨p, 0, none⟩ sv') (OfC p sv) ∧ (∀ b, sv'.ownBlock = some b → sv.ownBlock = some b ∨ w.heap.size ≤ b) := by
  have hne : sv'.ownBlock ≠ some p := own_blk_ne hown hk (by decide)
  have e1 : (L ++ [x]).length = L.length + 1 := by simp
  have e2 : versC (L ++ [x]) = versC L ++ VerS.cs x := by simp [versC]
  have hb : But w w2 (OfC p sv) := ((But.refl w _).alloc o).grown hg (fun i _ he => .inr he)
  refine ⟨⟨?_, ?_, h.up.snoc hx h0, by rw [e1]; omega⟩, hb.setCell (fun _ => .inl rfl) _, ?_⟩
  · have := Blk.set_ hk 0 sv'
    exact this
  · rw [e1, e2]
    refine own_but hown ((But.refl w2 (fun i => i = p)).setCell (fun _ => rfl) _) (fun b hb he => hne (by rw [hb, he]))
  · intro b hb
    rcases hat with h1 | h1
    · exact .inl (by rw [← h1]; exact hb)
    · rw [h1] at hb
      cases hb
      exact .inr (by simp)
set_option maxRecDepth 100000 in
set_option maxHeartbeats 4000000 in
theorem put_calls {p : Nat} {sv : Value} {L : List VerS} (n : Int) (v : ByteArray) (w : World) (h : Chn w p sv L) (hlen : L.length < 9382499223000) :
    Calls Tryd.prog 37 #[.pointer (some ⟨p, 0, none⟩), .int .i64 n, .string v] w
      fun e w' => ∃ sv', e = .returned (errV (putE L n)) ∧ Chn w' p sv' (putL L ⟨n, v⟩) ∧ But w w' (OfC p sv) ∧ (∀ b, sv'.ownBlock = some b → sv.ownBlock = some b ∨ w.heap.size ≤ b) := by
  obtain ⟨i0, hi0, hz0, hz1, hz2⟩ := info_parts infoVers
  obtain ⟨A, c, rfl⟩ := own_slice h.row
  have c0 : w.cell? ⟨p, 0, none⟩ = some (.slice A L.length c) := h.blk.cell 0
  have z0 : w.frozen? ⟨p, 0, none⟩ = false := h.blk.frozen 0
  have hr := Reads.of_own h.row
  have H := Lib.hid h
  go_enter Tryd.func37, Tryd.ntmps37
  by_cases hm : mayPut L n = true
  · have hm2 : lastNo L < n ∧ 0 ≤ n := by simpa [mayPut] using hm
    obtain ⟨hm3, hm4⟩ := hm2
    have e1 : putE L n = 0 := by simp [putE, hm]
    have e2 : putL L ⟨n, v⟩ = L ++ [⟨n, v⟩] := by simp [putL, hm]
    rw [e1, e2, errV_zero]
    have HM := Lib.hid hm3
    have HM4 := Lib.hid hm4
    clear e1 e2 hm hm3
    by_cases hl : 0 < L.length
    · obtain ⟨m, hm5⟩ : ∃ m, L.length = m + 1 := ⟨L.length - 1, by omega⟩
      have hml : m < L.length := by omega
      have hlast : L[m].n < n := by have := HM.out; rw [lastNo_pos hl] at this; simpa [hm5] using this
      obtain ⟨ad, rfl, hadb, f0, f1⟩ := vers_at hr hml
      have hl' : (0 : Int) < L.length := by omega
      generalize L[m].n = y at hlast f0
      have HM5 := Lib.hid hm5
      have e3 : ((L.length : Nat) : Int) - 1 = m := by omega
      clear hr f1 hm5 hml hl
      go_wp2_with (first | (at_builtin; refine wpList_append_wide_at _ rfl (.tmp 37) (.tmp 41) 83 rfl 0 86 i0 _ 2 24 Tryd.underlying83 hi0 hz0 hz1 hz2 rfl (by decide) _ L.length (versC L) rfl (H.out.row.alloc _) ⟨w.heap.size, 0, none⟩ 1 1 [.int .i64 n, .string v] rfl rfl ?_ ?_ ?_ ?_ ?_ ?_; exact new_cells w 86 [.int .i64 n, .string v]; (simp [Value.oneCell']); ( unfold maxLen; omega); ( omega); (simp); intro v1 w2 hown2 hg2 _ hat2; have k2 := Blk.grown (H.out.blk.alloc _) hg2 (Ne.symm (own_blk_ne H.out.row H.out.blk (by decide))); have c2 : w2.cell? ⟨p, 0, none⟩ = some (.slice (some ad) L.length c) := Blk.cell k2 0; have z2 : w2.frozen? ⟨p, 0, none⟩ = false := Blk.frozen k2 0; obtain ⟨BA, bc, rfl⟩ := own_slice hown2; have K2 := Lib.hid k2; clear k2))
      go_ret
      obtain ⟨k1, k2, k3⟩ := put_done (x := ⟨n, v⟩) H.out hown2 hg2 hat2 K2.out HM.out HM4.out hlen
      exact ⟨_, rfl, k1, k2, k3⟩
    · obtain rfl : L = [] := List.eq_nil_of_length_eq_zero (by omega)
      clear hr hl
      go_wp2_with (first | (at_builtin; refine wpList_append_wide_at _ rfl (.tmp 37) (.tmp 41) 83 rfl 0 86 i0 _ 2 24 Tryd.underlying83 hi0 hz0 hz1 hz2 rfl (by decide) _ 0 (versC []) rfl (H.out.row.alloc _) ⟨w.heap.size, 0, none⟩ 1 1 [.int .i64 n, .string v] rfl rfl ?_ ?_ ?_ ?_ ?_ ?_; exact new_cells w 86 [.int .i64 n, .string v]; (simp [Value.oneCell']); ( unfold maxLen; omega); ( omega); (simp); intro v1 w2 hown2 hg2 _ hat2; have k2 := Blk.grown (H.out.blk.alloc _) hg2 (Ne.symm (own_blk_ne H.out.row H.out.blk (by decide))); have c2 : w2.cell? ⟨p, 0, none⟩ = some (.slice A 0 c) := Blk.cell k2 0; have z2 : w2.frozen? ⟨p, 0, none⟩ = false := Blk.frozen k2 0; obtain ⟨BA, bc, rfl⟩ := own_slice hown2; have K2 := Lib.hid k2; clear k2))
      go_ret
      obtain ⟨k1, k2, k3⟩ := put_done (x := ⟨n, v⟩) H.out hown2 hg2 hat2 K2.out HM.out HM4.out hlen
      exact ⟨_, rfl, k1, k2, k3⟩
  · have e1 : putE L n = 1 := by simp [putE, hm]
    have e2 : putL L ⟨n, v⟩ = L := by simp [putL, hm]
    rw [e1, e2, errV_pos (by omega)]
    have hm2 : ¬ (lastNo L < n ∧ 0 ≤ n) := by simpa [mayPut] using hm
    clear e1 e2 hm
    by_cases hn : n < 0
    · clear hm2 hr
      go_wp2_with (fail)
      go_ret
      exact ⟨_, rfl, H.out, But.refl _ _, fun b hb => .inl hb⟩
    · have hn0 : 0 ≤ n := by omega
      have hl : 0 < L.length := by
        rcases Nat.eq_zero_or_pos L.length with h0 | h0
        · exfalso
          have : L = [] := List.eq_nil_of_length_eq_zero h0
          subst this
          exact hm2 ⟨by simp [lastNo]; omega, hn0⟩
        · exact h0
      obtain ⟨m, hm5⟩ : ∃ m, L.length = m + 1 := ⟨L.length - 1, by omega⟩
      have hml : m < L.length := by omega
      have hlast : n ≤ L[m].n := by
        have h3 : ¬ lastNo L < n := fun h4 => hm2 ⟨h4, hn0⟩
        rw [lastNo_pos hl] at h3
        simp [hm5] at h3
        exact h3
      obtain ⟨ad, rfl, hadb, f0, f1⟩ := vers_at hr hml
      generalize L[m].n = y at hlast f0
      have hl' : (0 : Int) < L.length := by omega
      have e3 : ((L.length : Nat) : Int) - 1 = m := by omega
      clear hr f1 hm5 hml hl hm2 hn
      go_wp2_with (fail)
      go_ret
      exact ⟨_, rfl, H.out, But.refl _ _, fun b hb => .inl hb⟩
end Go.Proofs.YtflkddllofeiaaaDoor
