/- The plain law of GuardBack: what is encoded is decoded, and the other way round. -/
import Derived.Test.YtmdkcggmnejkoaaDoorEncode2
import Derived.Test.YtmdkcggmnejkoaaDoorSame
import Derived.Test.YtmdkcggmnejkoaaDoorOwn
namespace Go.Proofs.YtmdkcggmnejkoaaDoor
set_option linter.unusedSimpArgs false
set_option linter.unusedVariables false
open Go.RowKit

def toM (o : Op) : OpM := ⟨o.code, o.acc, o.ast, o.qty, o.name, o.id, o.legs, o.pairs⟩
def ofM (o : OpM) : Op := ⟨o.c, o.a, o.b, o.q, o.n, o.i, o.ls, o.ks⟩
theorem legs5_flat (ls : List Leg) : legs5 (ls.flatMap (fun x => [x.f, x.t, x.a, x.q, x.n])) = some ls := by
  induction ls with
  | nil => rfl
  | cons x ls ih => simp only [List.flatMap_cons, List.cons_append, List.nil_append, legs5, ih, Option.map_some]
theorem keys2_flat (ks : List Key) : keys2 (ks.flatMap (fun x => [x.acc, x.ast])) = some ks := by
  induction ks with
  | nil => rfl
  | cons x ks ih => simp only [List.flatMap_cons, List.cons_append, List.nil_append, keys2, ih, Option.map_some]
theorem flat_legs5 : ∀ (r : List Int) (ls : List Leg), legs5 r = some ls → ls.flatMap (fun x => [x.f, x.t, x.a, x.q, x.n]) = r
  | [], ls, h => by simp only [legs5, Option.some.injEq] at h; subst h; rfl
  | f :: t :: a :: q :: n :: r, ls, h => by
    simp only [legs5, Option.map_eq_some_iff] at h
    obtain ⟨l2, h2, rfl⟩ := h
    simp [flat_legs5 r l2 h2]
  | [_], ls, h => by simp [legs5] at h
  | [_, _], ls, h => by simp [legs5] at h
  | [_, _, _], ls, h => by simp [legs5] at h
  | [_, _, _, _], ls, h => by simp [legs5] at h
theorem flat_keys2 : ∀ (r : List Int) (ks : List Key), keys2 r = some ks → ks.flatMap (fun x => [x.acc, x.ast]) = r
  | [], ks, h => by simp only [keys2, Option.some.injEq] at h; subst h; rfl
  | x :: y :: r, ks, h => by
    simp only [keys2, Option.map_eq_some_iff] at h
    obtain ⟨l2, h2, rfl⟩ := h
    simp [flat_keys2 r l2 h2]
  | [_], ks, h => by simp [keys2] at h

theorem dec_enc (o : Op) (h : 1 ≤ o.code ∧ o.code ≤ 8) : decodeG (encL o) = (toM (ownM o), 0) := by
  obtain ⟨c, a, b, q, n, i, ls, ks⟩ := o
  dsimp only at h
  have hc : c = 1 ∨ c = 2 ∨ c = 3 ∨ c = 4 ∨ c = 5 ∨ c = 6 ∨ c = 7 ∨ c = 8 := by omega
  rcases hc with rfl | rfl | rfl | rfl | rfl | rfl | rfl | rfl
  · rfl
  · rfl
  · rfl
  · rfl
  · show fin ((legs5 _).map _) = _; rw [legs5_flat]; rfl
  · rfl
  · rfl
  · show fin ((keys2 _).map _) = _; rw [keys2_flat]; rfl
theorem enc_own (o : Op) (h : 1 ≤ o.code ∧ o.code ≤ 8) : encL (ownM o) = encL o := by
  obtain ⟨c, a, b, q, n, i, ls, ks⟩ := o
  dsimp only at h
  have hc : c = 1 ∨ c = 2 ∨ c = 3 ∨ c = 4 ∨ c = 5 ∨ c = 6 ∨ c = 7 ∨ c = 8 := by omega
  rcases hc with rfl | rfl | rfl | rfl | rfl | rfl | rfl | rfl <;> rfl
theorem own_code (o : Op) : (ownM o).code = o.code := by
  unfold ownM
  repeat' split
  all_goals rfl
theorem alike (o p : Op) (ho : 1 ≤ o.code ∧ o.code ≤ 8) (hp : 1 ≤ p.code ∧ p.code ≤ 8) : encL o = encL p ↔ ownM o = ownM p := by
  constructor
  · intro h
    have h1 := dec_enc o ho
    rw [h, dec_enc p hp] at h1
    have h2 : toM (ownM p) = toM (ownM o) := (Prod.mk.inj h1).1
    have h3 := congrArg ofM h2
    exact h3.symm
  · intro h
    rw [← enc_own o ho, h, enc_own p hp]
theorem unlike (o p : Op) (ho : 1 ≤ o.code ∧ o.code ≤ 8) (hp : ¬ (1 ≤ p.code ∧ p.code ≤ 8)) : ownM o ≠ ownM p := fun h => by
  have := congrArg Op.code h
  rw [own_code, own_code] at this
  omega
theorem fin_zero {res : Option (OpM × List Int)} (h : (fin res).2 = 0) : ∃ o, res = some (o, []) ∧ fin res = (o, 0) := by
  match res, h with
  | some (o, []), _ => exact ⟨o, rfl, rfl⟩
theorem held_enc {c : Int} {r : List Int} {o : OpM} (h : rdHeld c r = some (o, [])) (hc : c = 1 ∨ c = 2) : encL (ofM o) = c :: r ∧ o.c = c := by
  match r, h with
  | [x, y, z], h =>
    simp only [rdHeld, Option.some.injEq, Prod.mk.injEq, and_true] at h
    subst h
    rcases hc with rfl | rfl <;> exact ⟨rfl, rfl⟩
theorem marked_enc {c : Int} {r : List Int} {o : OpM} (h : rdMarked c r = some (o, [])) (hc : c = 3 ∨ c = 4) : encL (ofM o) = c :: r ∧ o.c = c := by
  match r, h with
  | [x, y, z, m], h =>
    simp only [rdMarked, Option.some.injEq, Prod.mk.injEq, and_true] at h
    subst h
    rcases hc with rfl | rfl <;> exact ⟨rfl, rfl⟩
theorem id_enc {c : Int} {r : List Int} {o : OpM} (h : rdId c r = some (o, [])) (hc : c = 6 ∨ c = 7) : encL (ofM o) = c :: r ∧ o.c = c := by
  match r, h with
  | [x], h =>
    simp only [rdId, Option.some.injEq, Prod.mk.injEq, and_true] at h
    subst h
    rcases hc with rfl | rfl <;> exact ⟨rfl, rfl⟩
theorem legs_enc {r : List Int} {o : OpM} (h : rdLegs 5 r = some (o, [])) : encL (ofM o) = 5 :: r ∧ o.c = 5 := by
  match r, h with
  | x :: r, h =>
    simp only [rdLegs, Option.map_eq_some_iff, Prod.mk.injEq, and_true] at h
    obtain ⟨ls, h1, rfl⟩ := h
    refine ⟨?_, rfl⟩
    show 5 :: x :: ls.flatMap _ = _
    rw [flat_legs5 r ls h1]
theorem pairs_enc {r : List Int} {o : OpM} (h : rdPairs 8 r = some (o, [])) : encL (ofM o) = 8 :: r ∧ o.c = 8 := by
  simp only [rdPairs, Option.map_eq_some_iff, Prod.mk.injEq, and_true] at h
  obtain ⟨ks, h1, rfl⟩ := h
  refine ⟨?_, rfl⟩
  show 8 :: ks.flatMap _ = _
  rw [flat_keys2 r ks h1]
theorem enc_dec (raw : List Int) (h : (decodeG raw).2 = 0) : encL (ofM (decodeG raw).1) = raw ∧ 1 ≤ (decodeG raw).1.c ∧ (decodeG raw).1.c ≤ 8 := by
  match raw, h with
  | [], h => cases h
  | c :: r, h =>
    unfold decodeG rdOf at h ⊢
    by_cases h1 : c = 1 ∨ c = 2
    · simp only [if_pos h1] at h ⊢
      obtain ⟨o, e1, e2⟩ := fin_zero h
      have e3 := held_enc e1 h1
      rw [e2]
      exact ⟨e3.1, by show 1 ≤ o.c; omega, by show o.c ≤ 8; omega⟩
    simp only [if_neg h1] at h ⊢
    by_cases h3 : c = 3 ∨ c = 4
    · simp only [if_pos h3] at h ⊢
      obtain ⟨o, e1, e2⟩ := fin_zero h
      have e3 := marked_enc e1 h3
      rw [e2]
      exact ⟨e3.1, by show 1 ≤ o.c; omega, by show o.c ≤ 8; omega⟩
    simp only [if_neg h3] at h ⊢
    by_cases h5 : c = 5
    · simp only [if_pos h5] at h ⊢
      subst h5
      obtain ⟨o, e1, e2⟩ := fin_zero h
      have e3 := legs_enc e1
      rw [e2]
      exact ⟨e3.1, by show 1 ≤ o.c; omega, by show o.c ≤ 8; omega⟩
    simp only [if_neg h5] at h ⊢
    by_cases h6 : c = 6 ∨ c = 7
    · simp only [if_pos h6] at h ⊢
      obtain ⟨o, e1, e2⟩ := fin_zero h
      have e3 := id_enc e1 h6
      rw [e2]
      exact ⟨e3.1, by show 1 ≤ o.c; omega, by show o.c ≤ 8; omega⟩
    simp only [if_neg h6] at h ⊢
    by_cases h8 : c = 8
    · simp only [if_pos h8] at h ⊢
      subst h8
      obtain ⟨o, e1, e2⟩ := fin_zero h
      have e3 := pairs_enc e1
      rw [e2]
      exact ⟨e3.1, by show 1 ≤ o.c; omega, by show o.c ≤ 8; omega⟩
    simp only [if_neg h8] at h
    exact absurd h (by decide)

theorem encL_len (o : Op) (h1 : o.legs.length * 40 ≤ 140737488351232) (h2 : o.pairs.length * 16 ≤ 140737488351232) : (encL o).length ≤ 17592186044416 := by
  unfold encL
  split
  · simp
  split
  · simp
  split
  · simp only [List.length_cons]; rw [flat_len 5 (fun _ => rfl)]; omega
  split
  · simp
  · simp only [List.length_cons]; rw [flat_len 2 (fun _ => rfl)]; omega
theorem fin_err (res : Option (OpM × List Int)) : (fin res).2 = 0 ∨ 1 ≤ (fin res).2 := by
  match res with
  | none => exact .inr (by decide)
  | some (o, []) => exact .inl rfl
  | some (_, _ :: _) => exact .inr (by show (1 : Int) ≤ 3; decide)
theorem dec_err (raw : List Int) : (decodeG raw).2 = 0 ∨ 1 ≤ (decodeG raw).2 := by
  match raw with
  | [] => exact .inr (by decide)
  | c :: r =>
    have e : decodeG (c :: r) = (match rdOf c r with | some res => fin res | none => (OpM.zero, 13)) := rfl
    rw [e]
    cases rdOf c r with
    | none => exact .inr (by show (1 : Int) ≤ 13; decide)
    | some res => exact fin_err res
theorem legs5_len {r : List Int} {ls : List Leg} (h : legs5 r = some ls) : ls.length * 5 = r.length := by
  rw [← flat_legs5 r ls h, flat_len 5 (fun _ => rfl)]
theorem keys2_len {r : List Int} {ks : List Key} (h : keys2 r = some ks) : ks.length * 2 = r.length := by
  rw [← flat_keys2 r ks h, flat_len 2 (fun _ => rfl)]
theorem fin_len {res : Option (OpM × List Int)} {n : Nat} (h : ∀ o, res = some (o, []) → o.ls.length * 5 ≤ n ∧ o.ks.length * 2 ≤ n) : (fin res).1.ls.length * 5 ≤ n ∧ (fin res).1.ks.length * 2 ≤ n := by
  match res, h with
  | none, _ => exact ⟨Nat.zero_le _, Nat.zero_le _⟩
  | some (o, []), h => exact h o rfl
  | some (_, _ :: _), _ => exact ⟨Nat.zero_le _, Nat.zero_le _⟩
theorem dec_len (raw : List Int) : (decodeG raw).1.ls.length * 5 ≤ raw.length ∧ (decodeG raw).1.ks.length * 2 ≤ raw.length := by
  match raw with
  | [] => exact ⟨Nat.zero_le _, Nat.zero_le _⟩
  | c :: r =>
    unfold decodeG rdOf
    by_cases h1 : c = 1 ∨ c = 2
    · simp only [if_pos h1]
      refine fin_len fun o h => ?_
      match r, h with
      | x :: y :: z :: r, h => simp only [rdHeld, Option.some.injEq, Prod.mk.injEq] at h; rw [← h.1]; exact ⟨Nat.zero_le _, Nat.zero_le _⟩
    simp only [if_neg h1]
    by_cases h3 : c = 3 ∨ c = 4
    · simp only [if_pos h3]
      refine fin_len fun o h => ?_
      match r, h with
      | x :: y :: z :: m :: r, h => simp only [rdMarked, Option.some.injEq, Prod.mk.injEq] at h; rw [← h.1]; exact ⟨Nat.zero_le _, Nat.zero_le _⟩
    simp only [if_neg h3]
    by_cases h5 : c = 5
    · simp only [if_pos h5]
      refine fin_len fun o h => ?_
      match r, h with
      | x :: r, h =>
        simp only [rdLegs, Option.map_eq_some_iff, Prod.mk.injEq] at h
        obtain ⟨ls, h1, h2, _⟩ := h
        rw [← h2]
        have := legs5_len h1
        exact ⟨by simp only [List.length_cons]; omega, Nat.zero_le _⟩
    simp only [if_neg h5]
    by_cases h6 : c = 6 ∨ c = 7
    · simp only [if_pos h6]
      refine fin_len fun o h => ?_
      match r, h with
      | x :: r, h => simp only [rdId, Option.some.injEq, Prod.mk.injEq] at h; rw [← h.1]; exact ⟨Nat.zero_le _, Nat.zero_le _⟩
    simp only [if_neg h6]
    by_cases h8 : c = 8
    · simp only [if_pos h8]
      refine fin_len fun o h => ?_
      simp only [rdPairs, Option.map_eq_some_iff, Prod.mk.injEq] at h
      obtain ⟨ks, h1, h2, _⟩ := h
      rw [← h2]
      have := keys2_len h1
      exact ⟨Nat.zero_le _, by simp only [List.length_cons]; omega⟩
    simp only [if_neg h8]
    exact ⟨Nat.zero_le _, Nat.zero_le _⟩
theorem own_len (o : Op) (h1 : o.legs.length * 40 ≤ 140737488351232) (h2 : o.pairs.length * 16 ≤ 140737488351232) : (ownM o).legs.length ≤ 17592186044416 ∧ (ownM o).pairs.length ≤ 17592186044416 := by
  unfold ownM
  repeat' split
  all_goals (dsimp only [List.length_nil]; omega)
theorem Reads.up {w w' : World} {s n : Nat} {A : Option Addr} {xs : List Value} (h : Reads w w.heap.size s A n xs) (hb : Below w.heap.size w w') : Reads w' w'.heap.size s A n xs := (h.below hb).more hb.size
theorem Blk.up {w w' : World} {g : Nat} {t : TypeId} {cs : Array Value} (h : Blk w g t cs) (hb : Below w.heap.size w w') : Blk w' g t cs := h.below hb h.lt
theorem here_alloc (w : World) (o : Obj) : Below w.heap.size w (w.alloc o) := (Below.refl _ _).alloc (Nat.le_refl _) o
theorem clip_reads {w : World} {B : Nat} {A : Option Addr} {l : List Int} (h : ClipRow w B A l) : Reads w w.heap.size 1 A l.length (intsC l) := by
  obtain ⟨g, cur, rfl, _, hb, hl, ht⟩ := h
  refine ⟨by rw [← ht, List.length_take]; simp; omega, fun _ => ⟨_, rfl, hb.lt, fun j u hj => ?_⟩⟩
  rw [Addr.add_lit, Nat.zero_add, hb.cell j]
  rw [← ht, List.getElem?_take] at hj
  split at hj
  · simpa using hj
  · cases hj
end Go.Proofs.YtmdkcggmnejkoaaDoor
