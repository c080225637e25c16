/- guard.Encode by contracts (printed by gen_encode.py). -/
import Derived.Test.YtmdkcggmnejkoaaDoorEncode
namespace Go.Proofs.YtmdkcggmnejkoaaDoor
set_option linter.unusedSimpArgs false
set_option linter.unusedVariables false
open Go.RowKit

theorem PutAt.alloc {w : World} {gl B : Nat} {l : List Int} (h : PutAt w gl B l) (o : Obj) : PutAt (w.alloc o) gl B l := by
  obtain ⟨v, hb, ho⟩ := h
  exact ⟨v, hb.alloc o, ho.alloc o⟩
theorem own_cap_n {w : World} {base : Nat} {e : TypeId} {size n c : Nat} {A : Option Addr} {xs : List Value} (h : w.ownsRow base e size (.slice A n c) n xs) : n ≤ c := by
  rcases h.2 with ⟨h, _⟩ | ⟨g, cap, cur, h, _, _, hn, _⟩
  · injection h with _ h1 h2; omega
  · injection h with _ _ h2; omega
/-- A clipped row: the call's own block holds it at its front. -/
def ClipRow (w : World) (B : Nat) (A : Option Addr) (l : List Int) : Prop := ∃ g cur, A = some ⟨g, 0, none⟩ ∧ B ≤ g ∧ Blk w g 2 cur ∧ l.length ≤ cur.size ∧ cur.toList.take l.length = intsC l
theorem clipRow_of {w : World} {B c : Nat} {A : Option Addr} {l : List Int} (h : w.ownsRow B 2 1 (.slice A l.length c) l.length (intsC l)) (hl : 0 < l.length) : ClipRow w B A l := by
  rcases h.2 with ⟨h1, h2⟩ | ⟨g, cap, cur, h1, h2, h3, h4, _, h5, h6⟩
  · omega
  · injection h1 with h1 _ h7
    refine ⟨g, cur, h1, h2, h3, by omega, ?_⟩
    simpa using h6
/-- The world at the first 'put': the operation's cells, the list's first number, the list's variable. -/
def encW (w : World) (o : Array Value) (x : Int) : World :=
  ((w.alloc (.cells o 33)).alloc (.cells #[.int .i64 x] 2)).alloc (.cells #[.slice (some ⟨w.heap.size + 1, 0, none⟩) 1 1] 34)
theorem encW_facts (w : World) (o : Array Value) (x : Int) : PutAt (encW w o x) (w.heap.size + 1 + 1) (w.heap.size + 1) [x] ∧ Blk (encW w o x) w.heap.size 33 o ∧ Below w.heap.size w (encW w o x) ∧ (encW w o x).heap.size = w.heap.size + 1 + 1 + 1 := by
  have h1 := Blk.new w 33 o
  have h2 := Blk.new (w.alloc (.cells o 33)) 2 #[.int .i64 x]
  have h3 := Blk.new ((w.alloc (.cells o 33)).alloc (.cells #[.int .i64 x] 2)) 34 #[.slice (some ⟨w.heap.size + 1, 0, none⟩) 1 1]
  have hb : Below w.heap.size w (encW w o x) := (((Below.refl _ _).alloc (Nat.le_refl _) _).alloc (by simp) _).alloc (by simp; omega) _
  have k2 := h2.alloc (.cells #[.slice (some ⟨w.heap.size + 1, 0, none⟩) 1 1] 34)
  have k1 := (h1.alloc (.cells #[.int .i64 x] 2)).alloc (.cells #[.slice (some ⟨w.heap.size + 1, 0, none⟩) 1 1] 34)
  have s1 : (w.alloc (.cells o 33)).heap.size = w.heap.size + 1 := by simp
  have s2 : ((w.alloc (.cells o 33)).alloc (.cells #[.int .i64 x] 2)).heap.size = w.heap.size + 1 + 1 := by simp
  rw [s1] at k2
  rw [s2] at h3
  refine ⟨⟨.slice (some ⟨w.heap.size + 1, 0, none⟩) 1 1, h3, by simp [intsC, Int.cs], .inr ⟨w.heap.size + 1, 1, #[.int .i64 x], rfl, Nat.le_refl _, k2, by simp, by simp [maxLen], by simp, by simp [intsC, Int.cs]⟩⟩, k1, hb, by simp [encW]⟩

theorem flat_len {α β : Type} {f : α → List β} (s : Nat) (hf : ∀ x, (f x).length = s) (l : List α) : (l.flatMap f).length = l.length * s := by
  induction l with
  | nil => simp
  | cons x l ih => rw [List.flatMap_cons, List.length_append, hf, ih, List.length_cons, Nat.add_mul]; omega
/-- What guard.Encode makes of an operation. -/
def encL (o : Op) : List Int :=
  if o.code = 1 ∨ o.code = 2 then [o.code, o.acc, o.ast, o.qty]
  else if o.code = 3 ∨ o.code = 4 then [o.code, o.acc, o.ast, o.qty, o.name]
  else if o.code = 5 then o.code :: o.id :: o.legs.flatMap (fun x => [x.f, x.t, x.a, x.q, x.n])
  else if o.code = 6 ∨ o.code = 7 then [o.code, o.id]
  else o.code :: o.pairs.flatMap (fun x => [x.acc, x.ast])
/-- A row, clipped, and no error. -/
def EncTo (w : World) (l : List Int) (e : Ending) (w' : World) : Prop :=
  ∃ A, e = .returned (.tuple #[.slice A l.length l.length, .nilIface]) ∧ ClipRow w' w.heap.size A l ∧ Below w.heap.size w w'

set_option maxRecDepth 100000 in
set_option maxHeartbeats 8000000 in
theorem enc_1 (a b q n i : Int) (ln pn : Nat) (LA PA : Option Addr) (lc pc : Nat) (w : World) :
    Calls Tryd.prog 17 #[.agg #[.int .i64 1, .int .i64 a, .int .i64 b, .int .i64 q, .int .i64 n, .int .i64 i, .slice LA ln lc, .slice PA pn pc]] w (EncTo w [1, a, b, q]) := by
  obtain ⟨g, hg⟩ : ∃ g, w.heap.size = g := ⟨_, rfl⟩
  go_enter Tryd.func17, Tryd.ntmps17
  go_wp2_with (fail)
  obtain ⟨hP, hK, hB, hS⟩ := encW_facts w #[.int .i64 1, .int .i64 a, .int .i64 b, .int .i64 q, .int .i64 n, .int .i64 i, .slice LA ln lc, .slice PA pn pc] 1
  obtain ⟨W3, hW3⟩ : ∃ W3, encW w #[.int .i64 1, .int .i64 a, .int .i64 b, .int .i64 q, .int .i64 n, .int .i64 i, .slice LA ln lc, .slice PA pn pc] 1 = W3 := ⟨_, rfl⟩
  rw [hW3] at hP hK hB hS
  unfold encW at hW3
  rw [hg] at hW3 hP hK hS
  rw [hW3]
  clear hW3
  refine (put_calls (g + 1 + 1) (g + 1 + 1 + 1) (g + 1) 3 [1] [a, b, q] _ (hP.alloc _) (by omega) (by rw [← hS]; exact Blk.new _ _ _) (by simp [hS]) (by simp)).mono ?_
  rintro e w4 ⟨⟨v4, rfl⟩, P4, b4⟩
  have K4 := (hK.alloc (Obj.cells #[.int .i64 a, .int .i64 b, .int .i64 q] 3)).below b4 (by omega)
  have B4 : Below w.heap.size w w4 := (hB.alloc hB.size _).trans (b4.mono (by omega))
  clear hP hK hB hS b4
  have kw40 : w4.cell? ⟨g, 0, none⟩ = some (.int .i64 1) := K4.cell 0
  obtain ⟨v, hv, ho⟩ := P4
  obtain ⟨A, cc, rfl⟩ := own_slice_n ho
  have cv : w4.cell? ⟨g + 1 + 1, 0, none⟩ = some _ := hv.cell 0
  go_wp2_with (go_at_call 46; refine (clip_calls _ _ _ (own_cap_n ho) _).mono ?_; rintro e w' ⟨rfl, rfl⟩)
  go_ret2
  exact ⟨A, rfl, clipRow_of (own_weaken ho (by omega)) (by simp), B4⟩

set_option maxRecDepth 100000 in
set_option maxHeartbeats 8000000 in
theorem enc_2 (a b q n i : Int) (ln pn : Nat) (LA PA : Option Addr) (lc pc : Nat) (w : World) :
    Calls Tryd.prog 17 #[.agg #[.int .i64 2, .int .i64 a, .int .i64 b, .int .i64 q, .int .i64 n, .int .i64 i, .slice LA ln lc, .slice PA pn pc]] w (EncTo w [2, a, b, q]) := by
  obtain ⟨g, hg⟩ : ∃ g, w.heap.size = g := ⟨_, rfl⟩
  go_enter Tryd.func17, Tryd.ntmps17
  go_wp2_with (fail)
  obtain ⟨hP, hK, hB, hS⟩ := encW_facts w #[.int .i64 2, .int .i64 a, .int .i64 b, .int .i64 q, .int .i64 n, .int .i64 i, .slice LA ln lc, .slice PA pn pc] 2
  obtain ⟨W3, hW3⟩ : ∃ W3, encW w #[.int .i64 2, .int .i64 a, .int .i64 b, .int .i64 q, .int .i64 n, .int .i64 i, .slice LA ln lc, .slice PA pn pc] 2 = W3 := ⟨_, rfl⟩
  rw [hW3] at hP hK hB hS
  unfold encW at hW3
  rw [hg] at hW3 hP hK hS
  rw [hW3]
  clear hW3
  refine (put_calls (g + 1 + 1) (g + 1 + 1 + 1) (g + 1) 3 [2] [a, b, q] _ (hP.alloc _) (by omega) (by rw [← hS]; exact Blk.new _ _ _) (by simp [hS]) (by simp)).mono ?_
  rintro e w4 ⟨⟨v4, rfl⟩, P4, b4⟩
  have K4 := (hK.alloc (Obj.cells #[.int .i64 a, .int .i64 b, .int .i64 q] 3)).below b4 (by omega)
  have B4 : Below w.heap.size w w4 := (hB.alloc hB.size _).trans (b4.mono (by omega))
  clear hP hK hB hS b4
  have kw40 : w4.cell? ⟨g, 0, none⟩ = some (.int .i64 2) := K4.cell 0
  obtain ⟨v, hv, ho⟩ := P4
  obtain ⟨A, cc, rfl⟩ := own_slice_n ho
  have cv : w4.cell? ⟨g + 1 + 1, 0, none⟩ = some _ := hv.cell 0
  go_wp2_with (go_at_call 46; refine (clip_calls _ _ _ (own_cap_n ho) _).mono ?_; rintro e w' ⟨rfl, rfl⟩)
  go_ret2
  exact ⟨A, rfl, clipRow_of (own_weaken ho (by omega)) (by simp), B4⟩

set_option maxRecDepth 100000 in
set_option maxHeartbeats 8000000 in
theorem enc_3 (a b q n i : Int) (ln pn : Nat) (LA PA : Option Addr) (lc pc : Nat) (w : World) :
    Calls Tryd.prog 17 #[.agg #[.int .i64 3, .int .i64 a, .int .i64 b, .int .i64 q, .int .i64 n, .int .i64 i, .slice LA ln lc, .slice PA pn pc]] w (EncTo w [3, a, b, q, n]) := by
  obtain ⟨g, hg⟩ : ∃ g, w.heap.size = g := ⟨_, rfl⟩
  go_enter Tryd.func17, Tryd.ntmps17
  go_wp2_with (fail)
  obtain ⟨hP, hK, hB, hS⟩ := encW_facts w #[.int .i64 3, .int .i64 a, .int .i64 b, .int .i64 q, .int .i64 n, .int .i64 i, .slice LA ln lc, .slice PA pn pc] 3
  obtain ⟨W3, hW3⟩ : ∃ W3, encW w #[.int .i64 3, .int .i64 a, .int .i64 b, .int .i64 q, .int .i64 n, .int .i64 i, .slice LA ln lc, .slice PA pn pc] 3 = W3 := ⟨_, rfl⟩
  rw [hW3] at hP hK hB hS
  unfold encW at hW3
  rw [hg] at hW3 hP hK hS
  rw [hW3]
  clear hW3
  refine (put_calls (g + 1 + 1) (g + 1 + 1 + 1) (g + 1) 3 [3] [a, b, q] _ (hP.alloc _) (by omega) (by rw [← hS]; exact Blk.new _ _ _) (by simp [hS]) (by simp)).mono ?_
  rintro e w4 ⟨⟨v4, rfl⟩, P4, b4⟩
  have K4 := (hK.alloc (Obj.cells #[.int .i64 a, .int .i64 b, .int .i64 q] 3)).below b4 (by omega)
  have B4 : Below w.heap.size w w4 := (hB.alloc hB.size _).trans (b4.mono (by omega))
  clear hP hK hB hS b4
  have kw40 : w4.cell? ⟨g, 0, none⟩ = some (.int .i64 3) := K4.cell 0
  have kw44 : w4.cell? ⟨g, 4, none⟩ = some (.int .i64 n) := K4.cell 4
  have hl4 : g < w4.heap.size := K4.lt
  go_wp2_with (fail)
  refine (put_calls (g + 1 + 1) w4.heap.size (g + 1) 1 [3, a, b, q] [n] _ (P4.alloc _) (by omega) (Blk.new _ _ _) (by simp) (by simp)).mono ?_
  rintro e w5 ⟨⟨v5, rfl⟩, P5, b5⟩
  have K5 := (K4.alloc (Obj.cells #[.int .i64 n] 3)).below b5 (by omega)
  have B5 : Below w.heap.size w w5 := (B4.alloc B4.size _).trans (b5.mono (by omega))
  clear P4 K4 B4 b5
  obtain ⟨v, hv, ho⟩ := P5
  obtain ⟨A, cc, rfl⟩ := own_slice_n ho
  have cv : w5.cell? ⟨g + 1 + 1, 0, none⟩ = some _ := hv.cell 0
  go_wp2_with (go_at_call 46; refine (clip_calls _ _ _ (own_cap_n ho) _).mono ?_; rintro e w' ⟨rfl, rfl⟩)
  go_ret2
  exact ⟨A, rfl, clipRow_of (own_weaken ho (by omega)) (by simp), B5⟩

set_option maxRecDepth 100000 in
set_option maxHeartbeats 8000000 in
theorem enc_4 (a b q n i : Int) (ln pn : Nat) (LA PA : Option Addr) (lc pc : Nat) (w : World) :
    Calls Tryd.prog 17 #[.agg #[.int .i64 4, .int .i64 a, .int .i64 b, .int .i64 q, .int .i64 n, .int .i64 i, .slice LA ln lc, .slice PA pn pc]] w (EncTo w [4, a, b, q, n]) := by
  obtain ⟨g, hg⟩ : ∃ g, w.heap.size = g := ⟨_, rfl⟩
  go_enter Tryd.func17, Tryd.ntmps17
  go_wp2_with (fail)
  obtain ⟨hP, hK, hB, hS⟩ := encW_facts w #[.int .i64 4, .int .i64 a, .int .i64 b, .int .i64 q, .int .i64 n, .int .i64 i, .slice LA ln lc, .slice PA pn pc] 4
  obtain ⟨W3, hW3⟩ : ∃ W3, encW w #[.int .i64 4, .int .i64 a, .int .i64 b, .int .i64 q, .int .i64 n, .int .i64 i, .slice LA ln lc, .slice PA pn pc] 4 = W3 := ⟨_, rfl⟩
  rw [hW3] at hP hK hB hS
  unfold encW at hW3
  rw [hg] at hW3 hP hK hS
  rw [hW3]
  clear hW3
  refine (put_calls (g + 1 + 1) (g + 1 + 1 + 1) (g + 1) 3 [4] [a, b, q] _ (hP.alloc _) (by omega) (by rw [← hS]; exact Blk.new _ _ _) (by simp [hS]) (by simp)).mono ?_
  rintro e w4 ⟨⟨v4, rfl⟩, P4, b4⟩
  have K4 := (hK.alloc (Obj.cells #[.int .i64 a, .int .i64 b, .int .i64 q] 3)).below b4 (by omega)
  have B4 : Below w.heap.size w w4 := (hB.alloc hB.size _).trans (b4.mono (by omega))
  clear hP hK hB hS b4
  have kw40 : w4.cell? ⟨g, 0, none⟩ = some (.int .i64 4) := K4.cell 0
  have kw44 : w4.cell? ⟨g, 4, none⟩ = some (.int .i64 n) := K4.cell 4
  have hl4 : g < w4.heap.size := K4.lt
  go_wp2_with (fail)
  refine (put_calls (g + 1 + 1) w4.heap.size (g + 1) 1 [4, a, b, q] [n] _ (P4.alloc _) (by omega) (Blk.new _ _ _) (by simp) (by simp)).mono ?_
  rintro e w5 ⟨⟨v5, rfl⟩, P5, b5⟩
  have K5 := (K4.alloc (Obj.cells #[.int .i64 n] 3)).below b5 (by omega)
  have B5 : Below w.heap.size w w5 := (B4.alloc B4.size _).trans (b5.mono (by omega))
  clear P4 K4 B4 b5
  obtain ⟨v, hv, ho⟩ := P5
  obtain ⟨A, cc, rfl⟩ := own_slice_n ho
  have cv : w5.cell? ⟨g + 1 + 1, 0, none⟩ = some _ := hv.cell 0
  go_wp2_with (go_at_call 46; refine (clip_calls _ _ _ (own_cap_n ho) _).mono ?_; rintro e w' ⟨rfl, rfl⟩)
  go_ret2
  exact ⟨A, rfl, clipRow_of (own_weaken ho (by omega)) (by simp), B5⟩

set_option maxRecDepth 100000 in
set_option maxHeartbeats 8000000 in
theorem enc_6 (a b q n i : Int) (ln pn : Nat) (LA PA : Option Addr) (lc pc : Nat) (w : World) :
    Calls Tryd.prog 17 #[.agg #[.int .i64 6, .int .i64 a, .int .i64 b, .int .i64 q, .int .i64 n, .int .i64 i, .slice LA ln lc, .slice PA pn pc]] w (EncTo w [6, i]) := by
  obtain ⟨g, hg⟩ : ∃ g, w.heap.size = g := ⟨_, rfl⟩
  go_enter Tryd.func17, Tryd.ntmps17
  go_wp2_with (fail)
  obtain ⟨hP, hK, hB, hS⟩ := encW_facts w #[.int .i64 6, .int .i64 a, .int .i64 b, .int .i64 q, .int .i64 n, .int .i64 i, .slice LA ln lc, .slice PA pn pc] 6
  obtain ⟨W3, hW3⟩ : ∃ W3, encW w #[.int .i64 6, .int .i64 a, .int .i64 b, .int .i64 q, .int .i64 n, .int .i64 i, .slice LA ln lc, .slice PA pn pc] 6 = W3 := ⟨_, rfl⟩
  rw [hW3] at hP hK hB hS
  unfold encW at hW3
  rw [hg] at hW3 hP hK hS
  rw [hW3]
  clear hW3
  refine (put_calls (g + 1 + 1) (g + 1 + 1 + 1) (g + 1) 1 [6] [i] _ (hP.alloc _) (by omega) (by rw [← hS]; exact Blk.new _ _ _) (by simp [hS]) (by simp)).mono ?_
  rintro e w4 ⟨⟨v4, rfl⟩, P4, b4⟩
  have K4 := (hK.alloc (Obj.cells #[.int .i64 i] 3)).below b4 (by omega)
  have B4 : Below w.heap.size w w4 := (hB.alloc hB.size _).trans (b4.mono (by omega))
  clear hP hK hB hS b4
  obtain ⟨v, hv, ho⟩ := P4
  obtain ⟨A, cc, rfl⟩ := own_slice_n ho
  have cv : w4.cell? ⟨g + 1 + 1, 0, none⟩ = some _ := hv.cell 0
  go_wp2_with (go_at_call 46; refine (clip_calls _ _ _ (own_cap_n ho) _).mono ?_; rintro e w' ⟨rfl, rfl⟩)
  go_ret2
  exact ⟨A, rfl, clipRow_of (own_weaken ho (by omega)) (by simp), B4⟩

set_option maxRecDepth 100000 in
set_option maxHeartbeats 8000000 in
theorem enc_7 (a b q n i : Int) (ln pn : Nat) (LA PA : Option Addr) (lc pc : Nat) (w : World) :
    Calls Tryd.prog 17 #[.agg #[.int .i64 7, .int .i64 a, .int .i64 b, .int .i64 q, .int .i64 n, .int .i64 i, .slice LA ln lc, .slice PA pn pc]] w (EncTo w [7, i]) := by
  obtain ⟨g, hg⟩ : ∃ g, w.heap.size = g := ⟨_, rfl⟩
  go_enter Tryd.func17, Tryd.ntmps17
  go_wp2_with (fail)
  obtain ⟨hP, hK, hB, hS⟩ := encW_facts w #[.int .i64 7, .int .i64 a, .int .i64 b, .int .i64 q, .int .i64 n, .int .i64 i, .slice LA ln lc, .slice PA pn pc] 7
  obtain ⟨W3, hW3⟩ : ∃ W3, encW w #[.int .i64 7, .int .i64 a, .int .i64 b, .int .i64 q, .int .i64 n, .int .i64 i, .slice LA ln lc, .slice PA pn pc] 7 = W3 := ⟨_, rfl⟩
  rw [hW3] at hP hK hB hS
  unfold encW at hW3
  rw [hg] at hW3 hP hK hS
  rw [hW3]
  clear hW3
  refine (put_calls (g + 1 + 1) (g + 1 + 1 + 1) (g + 1) 1 [7] [i] _ (hP.alloc _) (by omega) (by rw [← hS]; exact Blk.new _ _ _) (by simp [hS]) (by simp)).mono ?_
  rintro e w4 ⟨⟨v4, rfl⟩, P4, b4⟩
  have K4 := (hK.alloc (Obj.cells #[.int .i64 i] 3)).below b4 (by omega)
  have B4 : Below w.heap.size w w4 := (hB.alloc hB.size _).trans (b4.mono (by omega))
  clear hP hK hB hS b4
  obtain ⟨v, hv, ho⟩ := P4
  obtain ⟨A, cc, rfl⟩ := own_slice_n ho
  have cv : w4.cell? ⟨g + 1 + 1, 0, none⟩ = some _ := hv.cell 0
  go_wp2_with (go_at_call 46; refine (clip_calls _ _ _ (own_cap_n ho) _).mono ?_; rintro e w' ⟨rfl, rfl⟩)
  go_ret2
  exact ⟨A, rfl, clipRow_of (own_weaken ho (by omega)) (by simp), B4⟩

set_option maxRecDepth 100000 in
set_option maxHeartbeats 8000000 in
theorem enc_other (c a b q n i : Int) (ln pn : Nat) (LA PA : Option Addr) (lc pc : Nat) (w : World) (h1 : (c == 1) = false) (h2 : (c == 2) = false) (h3 : (c == 3) = false) (h4 : (c == 4) = false) (h5 : (c == 5) = false) (h6 : (c == 6) = false) (h7 : (c == 7) = false) (h8 : (c == 8) = false) :
    Calls Tryd.prog 17 #[.agg #[.int .i64 c, .int .i64 a, .int .i64 b, .int .i64 q, .int .i64 n, .int .i64 i, .slice LA ln lc, .slice PA pn pc]] w (fun e w' => e = .returned (.tuple #[nilS, errV 13]) ∧ Below w.heap.size w w') := by
  go_enter Tryd.func17, Tryd.ntmps17
  go_wp2_with (fail)
  go_ret2
  exact ⟨rfl, (((Below.refl _ _).alloc (Nat.le_refl _) _).alloc (by simp) _).alloc (by simp; omega) _⟩

set_option maxRecDepth 100000 in
set_option maxHeartbeats 8000000 in
theorem enc_5 (a b q n i : Int) (legs : List Leg) (pn : Nat) (LA PA : Option Addr) (lc pc : Nat) (w : World) (hr : Reads w w.heap.size 5 LA legs.length (legsC legs)) (hlen : legs.length * 40 ≤ 140737488351232) :
    Calls Tryd.prog 17 #[.agg #[.int .i64 5, .int .i64 a, .int .i64 b, .int .i64 q, .int .i64 n, .int .i64 i, .slice LA legs.length lc, .slice PA pn pc]] w (EncTo w (5 :: i :: legs.flatMap (fun x => [x.f, x.t, x.a, x.q, x.n]))) := by
  obtain ⟨g, hg⟩ : ∃ g, w.heap.size = g := ⟨_, rfl⟩
  go_enter Tryd.func17, Tryd.ntmps17
  go_wp2_with (fail)
  obtain ⟨hP, hK, hB, hS⟩ := encW_facts w #[.int .i64 5, .int .i64 a, .int .i64 b, .int .i64 q, .int .i64 n, .int .i64 i, .slice LA legs.length lc, .slice PA pn pc] 5
  obtain ⟨W3, hW3⟩ : ∃ W3, encW w #[.int .i64 5, .int .i64 a, .int .i64 b, .int .i64 q, .int .i64 n, .int .i64 i, .slice LA legs.length lc, .slice PA pn pc] 5 = W3 := ⟨_, rfl⟩
  rw [hW3] at hP hK hB hS
  unfold encW at hW3
  rw [hg] at hW3 hP hK hS
  rw [hW3]
  clear hW3
  refine (put_calls (g + 1 + 1) (g + 1 + 1 + 1) (g + 1) 1 [5] [i] _ (hP.alloc _) (by omega) (by rw [← hS]; exact Blk.new _ _ _) (by simp [hS]) (by simp)).mono ?_
  rintro e w4 ⟨⟨v4, rfl⟩, P4, b4⟩
  have K4 := (hK.alloc (Obj.cells #[.int .i64 i] 3)).below b4 (by omega)
  have B4 : Below w.heap.size w w4 := (hB.alloc hB.size _).trans (b4.mono (by omega))
  clear hP hK hB hS b4
  have kw46 : w4.cell? ⟨g, 6, none⟩ = some (.slice LA legs.length lc) := K4.cell 6
  go_wp2_with (fail)
  go_loopw [49] (fun j wr => ∃ k : Nat, k ≤ legs.length ∧ j = .int .i64 k ∧ PutAt wr (g + 1 + 1) (g + 1) (5 :: i :: (legs.take k).flatMap (fun x => [x.f, x.t, x.a, x.q, x.n])) ∧ Below w.heap.size w wr) (fun j _ => legs.length - (intOf j).toNat)
  case atStart => exact ⟨0, Nat.zero_le _, rfl, by simpa using P4, B4⟩
  case round =>
    obtain ⟨k, hk, rfl, Pr, hbel⟩ := hrel
    by_cases hlt : k < legs.length
    · obtain ⟨ad, rfl, hadb, e0, e1, e2, e3, e4⟩ := legs_at (hr.below hbel) hlt
      have htk : legs.take (k + 1) = legs.take k ++ [legs[k]] := by rw [List.take_succ_eq_append_getElem hlt]
      have HTK := Lib.hid htk
      clear htk
      generalize hx : legs[k] = x at e0 e1 e2 e3 e4 HTK
      have HX := Lib.hid hx
      clear hx hr
      have hlr : g + 1 + 1 < wr.heap.size := by obtain ⟨v, hv, _⟩ := Pr; exact hv.lt
      have hkl : (k : Int) < legs.length := by omega
      have hLn : ((5 :: i :: (legs.take k).flatMap (fun x => [x.f, x.t, x.a, x.q, x.n]))).length = 2 + k * 5 := by simp only [List.length_cons]; rw [flat_len 5 (fun _ => rfl), List.length_take, Nat.min_eq_left hk]; omega
      generalize hM : (5 :: i :: (legs.take k).flatMap (fun x => [x.f, x.t, x.a, x.q, x.n])) = M at Pr hLn
      have HM := Lib.hid hM
      clear hM
      go_wp2_with (fail)
      refine (put_calls (g + 1 + 1) (wr.heap.size + 1) (g + 1) 5 M [x.f, x.t, x.a, x.q, x.n] _ ((Pr.alloc _).alloc _) (by omega) (by have h := Blk.new (wr.alloc (.cells #[.int .i64 x.f, .int .i64 x.t, .int .i64 x.a, .int .i64 x.q, .int .i64 x.n] 45)) 3 #[.int .i64 x.f, .int .i64 x.t, .int .i64 x.a, .int .i64 x.q, .int .i64 x.n]; simpa [intsC, Int.cs] using h) (by simp) (by simp; omega)).mono ?_
      rintro e w5 ⟨⟨v5, rfl⟩, P5, b5⟩
      go_wp2
      go_roundw
      case rel =>
        refine ⟨k + 1, by omega, by go_num, ?_, ((hbel.alloc hbel.size _).alloc (by have := hbel.size; simp; omega) _).trans (b5.mono (by omega))⟩
        have hM := HM.out
        subst hM
        rw [HTK.out, List.flatMap_append]
        simpa using P5
      case measure => simp [intOf]; omega
    · obtain rfl : k = legs.length := by omega
      rw [List.take_length] at Pr
      generalize hM : (5 :: i :: legs.flatMap (fun x => [x.f, x.t, x.a, x.q, x.n])) = M at Pr
      have HM := Lib.hid hM
      clear hM
      obtain ⟨v, hv, ho⟩ := Pr
      obtain ⟨A, cc, rfl⟩ := own_slice_n ho
      have cv : wr.cell? ⟨g + 1 + 1, 0, none⟩ = some _ := hv.cell 0
      go_wp2_with (go_at_call 46; refine (clip_calls _ _ _ (own_cap_n ho) _).mono ?_; rintro e w' ⟨rfl, rfl⟩)
      go_ret2
      have hM := HM.out
      subst hM
      exact ⟨A, rfl, clipRow_of (own_weaken ho (by omega)) (by simp), hbel⟩

set_option maxRecDepth 100000 in
set_option maxHeartbeats 8000000 in
theorem enc_8 (a b q n i : Int) (pairs : List Key) (ln : Nat) (LA PA : Option Addr) (lc pc : Nat) (w : World) (hr : Reads w w.heap.size 2 PA pairs.length (keysC pairs)) (hlen : pairs.length * 16 ≤ 140737488351232) :
    Calls Tryd.prog 17 #[.agg #[.int .i64 8, .int .i64 a, .int .i64 b, .int .i64 q, .int .i64 n, .int .i64 i, .slice LA ln lc, .slice PA pairs.length pc]] w (EncTo w (8 :: pairs.flatMap (fun x => [x.acc, x.ast]))) := by
  obtain ⟨g, hg⟩ : ∃ g, w.heap.size = g := ⟨_, rfl⟩
  go_enter Tryd.func17, Tryd.ntmps17
  go_wp2_with (fail)
  obtain ⟨P4, hK, B4, hS⟩ := encW_facts w #[.int .i64 8, .int .i64 a, .int .i64 b, .int .i64 q, .int .i64 n, .int .i64 i, .slice LA ln lc, .slice PA pairs.length pc] 8
  obtain ⟨w4, hW3⟩ : ∃ w4, encW w #[.int .i64 8, .int .i64 a, .int .i64 b, .int .i64 q, .int .i64 n, .int .i64 i, .slice LA ln lc, .slice PA pairs.length pc] 8 = w4 := ⟨_, rfl⟩
  rw [hW3] at P4 hK B4 hS
  unfold encW at hW3
  rw [hg] at hW3 P4 hK hS
  rw [hW3]
  clear hW3
  go_loopw [80] (fun j wr => ∃ k : Nat, k ≤ pairs.length ∧ j = .int .i64 k ∧ PutAt wr (g + 1 + 1) (g + 1) (8 :: (pairs.take k).flatMap (fun x => [x.acc, x.ast])) ∧ Below w.heap.size w wr) (fun j _ => pairs.length - (intOf j).toNat)
  case atStart => exact ⟨0, Nat.zero_le _, rfl, by simpa using P4, B4⟩
  case round =>
    obtain ⟨k, hk, rfl, Pr, hbel⟩ := hrel
    by_cases hlt : k < pairs.length
    · obtain ⟨ad, rfl, hadb, e0, e1⟩ := keys_at (hr.below hbel) hlt
      have htk : pairs.take (k + 1) = pairs.take k ++ [pairs[k]] := by rw [List.take_succ_eq_append_getElem hlt]
      have HTK := Lib.hid htk
      clear htk
      generalize hx : pairs[k] = x at e0 e1 HTK
      have HX := Lib.hid hx
      clear hx hr
      have hlr : g + 1 + 1 < wr.heap.size := by obtain ⟨v, hv, _⟩ := Pr; exact hv.lt
      have hkl : (k : Int) < pairs.length := by omega
      have hLn : ((8 :: (pairs.take k).flatMap (fun x => [x.acc, x.ast]))).length = 1 + k * 2 := by simp only [List.length_cons]; rw [flat_len 2 (fun _ => rfl), List.length_take, Nat.min_eq_left hk]; omega
      generalize hM : (8 :: (pairs.take k).flatMap (fun x => [x.acc, x.ast])) = M at Pr hLn
      have HM := Lib.hid hM
      clear hM
      go_wp2_with (fail)
      refine (put_calls (g + 1 + 1) (wr.heap.size + 1) (g + 1) 2 M [x.acc, x.ast] _ ((Pr.alloc _).alloc _) (by omega) (by have h := Blk.new (wr.alloc (.cells #[.int .i64 x.acc, .int .i64 x.ast] 47)) 3 #[.int .i64 x.acc, .int .i64 x.ast]; simpa [intsC, Int.cs] using h) (by simp) (by simp; omega)).mono ?_
      rintro e w5 ⟨⟨v5, rfl⟩, P5, b5⟩
      go_wp2
      go_roundw
      case rel =>
        refine ⟨k + 1, by omega, by go_num, ?_, ((hbel.alloc hbel.size _).alloc (by have := hbel.size; simp; omega) _).trans (b5.mono (by omega))⟩
        have hM := HM.out
        subst hM
        rw [HTK.out, List.flatMap_append]
        simpa using P5
      case measure => simp [intOf]; omega
    · obtain rfl : k = pairs.length := by omega
      rw [List.take_length] at Pr
      generalize hM : (8 :: pairs.flatMap (fun x => [x.acc, x.ast])) = M at Pr
      have HM := Lib.hid hM
      clear hM
      obtain ⟨v, hv, ho⟩ := Pr
      obtain ⟨A, cc, rfl⟩ := own_slice_n ho
      have cv : wr.cell? ⟨g + 1 + 1, 0, none⟩ = some _ := hv.cell 0
      go_wp2_with (go_at_call 46; refine (clip_calls _ _ _ (own_cap_n ho) _).mono ?_; rintro e w' ⟨rfl, rfl⟩)
      go_ret2
      have hM := HM.out
      subst hM
      exact ⟨A, rfl, clipRow_of (own_weaken ho (by omega)) (by simp), hbel⟩


def EncPost (w : World) (o : Op) (e : Ending) (w' : World) : Prop :=
  if 1 ≤ o.code ∧ o.code ≤ 8 then EncTo w (encL o) e w' else e = .returned (.tuple #[nilS, errV 13]) ∧ Below w.heap.size w w'
theorem encode_calls (o : Op) (LA PA : Option Addr) (lc pc : Nat) (w : World) (hrL : Reads w w.heap.size 5 LA o.legs.length (legsC o.legs)) (hrP : Reads w w.heap.size 2 PA o.pairs.length (keysC o.pairs)) (hl : o.legs.length * 40 ≤ 140737488351232) (hp : o.pairs.length * 16 ≤ 140737488351232) :
    Calls Tryd.prog 17 #[.agg #[.int .i64 o.code, .int .i64 o.acc, .int .i64 o.ast, .int .i64 o.qty, .int .i64 o.name, .int .i64 o.id, .slice LA o.legs.length lc, .slice PA o.pairs.length pc]] w (EncPost w o) := by
  obtain ⟨c, a, b, q, n, i, ls, ks⟩ := o
  dsimp only at hrL hrP hl hp ⊢
  by_cases h1 : c = 1
  · subst h1; exact (enc_1 a b q n i _ _ LA PA lc pc w).mono fun e w' h => h
  by_cases h2 : c = 2
  · subst h2; exact (enc_2 a b q n i _ _ LA PA lc pc w).mono fun e w' h => h
  by_cases h3 : c = 3
  · subst h3; exact (enc_3 a b q n i _ _ LA PA lc pc w).mono fun e w' h => h
  by_cases h4 : c = 4
  · subst h4; exact (enc_4 a b q n i _ _ LA PA lc pc w).mono fun e w' h => h
  by_cases h5 : c = 5
  · subst h5; exact (enc_5 a b q n i ls _ LA PA lc pc w hrL hl).mono fun e w' h => h
  by_cases h6 : c = 6
  · subst h6; exact (enc_6 a b q n i _ _ LA PA lc pc w).mono fun e w' h => h
  by_cases h7 : c = 7
  · subst h7; exact (enc_7 a b q n i _ _ LA PA lc pc w).mono fun e w' h => h
  by_cases h8 : c = 8
  · subst h8; exact (enc_8 a b q n i ks _ LA PA lc pc w hrP hp).mono fun e w' h => h
  refine (enc_other c a b q n i _ _ LA PA lc pc w (beq_eq_false_iff_ne.2 h1) (beq_eq_false_iff_ne.2 h2) (beq_eq_false_iff_ne.2 h3) (beq_eq_false_iff_ne.2 h4) (beq_eq_false_iff_ne.2 h5) (beq_eq_false_iff_ne.2 h6) (beq_eq_false_iff_ne.2 h7) (beq_eq_false_iff_ne.2 h8)).mono fun e w' h => ?_
  unfold EncPost
  rw [if_neg (by dsimp only; omega)]
  exact h
end Go.Proofs.YtmdkcggmnejkoaaDoor
