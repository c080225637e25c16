/- custodyref0's SameMarks, slices.Equal of marks, SamePosition and balance.Same by contracts (printed by gen_same14.py). -/
import Derived.Test.YtcgcgekefhhjhaaDoorMove14
import Derived.Laws.StructEq
import Derived.Deep.RegionHeld3
namespace Go.Proofs.YtcgcgekefhhjhaaDoor
set_option linter.unusedSimpArgs false
set_option linter.unusedVariables false
open Go.RowKit

section
variable {P : Program} {d : Nat} {xs ys : Array Value} {f : Field} {fs : List Field} {a b : Value} {r s : Bool} {w : World}
theorem sf_last (hn : (f.name == "_") = false) (ha : (part f.type xs f.offset).run P w = .ok a w) (hb : (part f.type ys f.offset).run P w = .ok b w) (he : (Op.equalIn d f.type a b).run P w = .ok r w) : (Op.eqFields d xs ys [f]).run P w = .ok r w := by
  have hn' : f.name ≠ "_" := by simpa using hn
  simp only [Op.eqFields, if_pos hn', Sem.run_bind, ha, hb, he, Result.andThen_ok]
  cases r <;> simp
theorem sf_more (hn : (f.name == "_") = false) (ha : (part f.type xs f.offset).run P w = .ok a w) (hb : (part f.type ys f.offset).run P w = .ok b w) (he : (Op.equalIn d f.type a b).run P w = .ok r w) (hr : (Op.eqFields d xs ys fs).run P w = .ok s w) : (Op.eqFields d xs ys (f :: fs)).run P w = .ok (r && s) w := by
  have hn' : f.name ≠ "_" := by simpa using hn
  rw [Op.eqFields]
  simp only [if_pos hn', Sem.run_bind, ha, hb, he, Result.andThen_ok]
  cases r
  · simp
  · simpa using hr
theorem sf_struct {t : TypeId} {fs : Array Field} (hu : P.underlying t = some (.struct fs)) (hp : P.stoodInHeld t = false) (h : (Op.eqFields d xs ys fs.toList).run P w = .ok r w) : (Op.equalIn (d + 1) t (.agg xs) (.agg ys)).run P w = .ok r w := by
  have hf : P.fieldsOf t = fs := by simp [Program.fieldsOf, hu]
  rw [run_equalIn_struct (P := P) w d t xs ys (by rw [hf]; exact hu) hp, hf]
  exact h
end
instance : DecidableEq Mk := fun a b =>
  decidable_of_iff (a.m = b.m ∧ a.q = b.q) ⟨fun h => by cases a; cases b; simp_all, fun h => by subst h; exact ⟨rfl, rfl⟩⟩
theorem mk_beq (x y : Mk) : (x.m == y.m && (x.q == y.q)) = decide (x = y) := by
  cases x; cases y; simp only [Mk.mk.injEq]; simp only [Bool.decide_and]; rfl
theorem eqMk (d : Nat) (w : World) (x y : Mk) :
    (Op.equalIn (d + 2) 37 (.agg #[.int .i64 x.m, .int .i64 x.q]) (.agg #[.int .i64 y.m, .int .i64 y.q])).run Tryd.prog w = .ok (decide (x = y)) w := by
  rw [← mk_beq]
  refine sf_struct Tryd.underlying37 (by kernel_rfl) ?_
  refine sf_more (by rfl) (by go_simp; rfl) (by go_simp; rfl) (by go_simp) ?_
  exact sf_last (by rfl) (by go_simp; rfl) (by go_simp; rfl) (by go_simp)
attribute [local go_sem high] eqMk

set_option maxRecDepth 100000 in
set_option maxHeartbeats 4000000 in
theorem sameMarks_calls (l m : List Mk) (A B : Option Addr) (c d : Nat) (w : World) (ha : Reads w w.heap.size 2 A l.length (marksC l)) (hb : Reads w w.heap.size 2 B m.length (marksC m)) (hlen : l.length ≤ 17592186044416) :
    Calls Tryd.prog 35 #[.slice A l.length c, .slice B m.length d] w fun e w' => e = .returned (.bool (decide (l = m))) ∧ Below w.heap.size w w' := by
  go_enter Tryd.func35, Tryd.ntmps35
  by_cases hn : l.length = m.length
  · rw [hn]
    go_wp2_with (fail)
    go_loopw [5] (fun i wr => ∃ k : Nat, k ≤ m.length ∧ i = .int .i64 k ∧ l.take k = m.take k ∧ Below w.heap.size w wr) (fun i _ => m.length - (intOf i).toNat)
    case atStart => exact ⟨0, Nat.zero_le _, rfl, by simp, Below.refl _ _⟩
    case round =>
      obtain ⟨k, hk, rfl, heq, hbel⟩ := hrel
      by_cases hlt : k < m.length
      · have hlt2 : k < l.length := by omega
        obtain ⟨ad, rfl, hadb, e0, e1⟩ := marks_at (ha.below hbel) hlt2
        obtain ⟨bd, rfl, hbdb, o0, o1⟩ := marks_at (hb.below hbel) hlt
        clear ha hb
        have hl' : (k : Int) < m.length := by omega
        have hs1 : l.take (k + 1) = l.take k ++ [l[k]] := by rw [List.take_succ_eq_append_getElem hlt2]
        have hs2 : m.take (k + 1) = m.take k ++ [m[k]] := by rw [List.take_succ_eq_append_getElem hlt]
        have hs3 : l = m → l[k] = m[k] := fun h => by subst h; rfl
        generalize hx : l[k] = x at e0 e1 hs1 hs3
        generalize hy : m[k] = y at o0 o1 hs2 hs3
        have HS1 := Lib.hid hs1
        have HS2 := Lib.hid hs2
        clear hx hy hs1 hs2
        by_cases hxy : x = y
        · subst hxy
          go_wp2_with (fail)
          go_region_held3 (fun w' => w'.cell? (ad.add (k * 2)) = some (.int .i64 x.m) ∧ w'.cell? ⟨(ad.add (k * 2)).block, (ad.add (k * 2)).off + 1, none⟩ = some (.int .i64 x.q) ∧ w'.cell? (bd.add (k * 2)) = some (.int .i64 x.m) ∧ w'.cell? ⟨(bd.add (k * 2)).block, (bd.add (k * 2)).off + 1, none⟩ = some (.int .i64 x.q))
            (first | go_keep | fail)
            (fail)
          go_wp2
          go_roundw
          case rel => exact ⟨k + 1, by omega, by go_num, by rw [HS1.out, HS2.out, heq], hbel.drew⟩
          case measure => simp [intOf]; omega
        · have hd : decide (x = y) = false := decide_eq_false hxy
          skip
          go_wp2_with (fail)
          go_region_held3 (fun w' => w'.cell? (ad.add (k * 2)) = some (.int .i64 x.m) ∧ w'.cell? ⟨(ad.add (k * 2)).block, (ad.add (k * 2)).off + 1, none⟩ = some (.int .i64 x.q) ∧ w'.cell? (bd.add (k * 2)) = some (.int .i64 y.m) ∧ w'.cell? ⟨(bd.add (k * 2)).block, (bd.add (k * 2)).off + 1, none⟩ = some (.int .i64 y.q))
            (first | go_keep | fail)
            (fail)
          go_wp2
          go_ret
          exact ⟨by rw [decide_eq_false (fun h => hxy (hs3 h))]; rfl, hbel.drew⟩
      · obtain rfl : k = m.length := by omega
        have hq : l = m := by rw [← hn, List.take_length, hn, List.take_length] at heq; exact heq
        go_wp2
        go_ret
        exact ⟨by rw [decide_eq_true hq]; rfl, hbel⟩
  · have hn' : ((l.length : Int) == (m.length : Int)) = false := beq_eq_false_iff_ne.2 (by omega)
    have hn2 : ((l.length : Int) != (m.length : Int)) = true := by simp [bne, hn']
    go_wp2
    go_ret
    exact ⟨by rw [decide_eq_false (fun h => hn (by rw [h]))]; rfl, Below.refl _ _⟩

set_option maxRecDepth 100000 in
set_option maxHeartbeats 4000000 in
theorem equalM_calls (l m : List Mk) (A B : Option Addr) (c d : Nat) (w : World) (ha : Reads w w.heap.size 2 A l.length (marksC l)) (hb : Reads w w.heap.size 2 B m.length (marksC m)) (hlen : l.length ≤ 17592186044416) :
    Calls Tryd.prog 34 #[.slice A l.length c, .slice B m.length d] w fun e w' => e = .returned (.bool (decide (l = m))) ∧ Below w.heap.size w w' := by
  go_enter Tryd.func34, Tryd.ntmps34
  by_cases hn : l.length = m.length
  · rw [hn]
    go_wp2_with (fail)
    go_loopw [5, 13] (fun _ i wr => ∃ k : Nat, k ≤ m.length ∧ i = .int .i64 k ∧ l.take k = m.take k ∧ Below w.heap.size w wr) (fun _ i _ => m.length - (intOf i).toNat)
    case atStart => exact ⟨0, Nat.zero_le _, rfl, by simp, Below.refl _ _⟩
    case round =>
      obtain ⟨k, hk, rfl, heq, hbel⟩ := hrel
      by_cases hlt : k < m.length
      · have hlt2 : k < l.length := by omega
        obtain ⟨ad, rfl, hadb, e0, e1⟩ := marks_at (ha.below hbel) hlt2
        obtain ⟨bd, rfl, hbdb, o0, o1⟩ := marks_at (hb.below hbel) hlt
        clear ha hb
        have hl' : (k : Int) < m.length := by omega
        have hs1 : l.take (k + 1) = l.take k ++ [l[k]] := by rw [List.take_succ_eq_append_getElem hlt2]
        have hs2 : m.take (k + 1) = m.take k ++ [m[k]] := by rw [List.take_succ_eq_append_getElem hlt]
        have hs3 : l = m → l[k] = m[k] := fun h => by subst h; rfl
        generalize hx : l[k] = x at e0 e1 hs1 hs3
        generalize hy : m[k] = y at o0 o1 hs2 hs3
        have HS1 := Lib.hid hs1
        have HS2 := Lib.hid hs2
        clear hx hy hs1 hs2
        by_cases hxy : x = y
        · subst hxy
          go_wp2_with (fail)
          go_region_held3 (fun w' => w'.cell? (ad.add (k * 2)) = some (.int .i64 x.m) ∧ w'.cell? ⟨(ad.add (k * 2)).block, (ad.add (k * 2)).off + 1, none⟩ = some (.int .i64 x.q) ∧ w'.cell? (bd.add (k * 2)) = some (.int .i64 x.m) ∧ w'.cell? ⟨(bd.add (k * 2)).block, (bd.add (k * 2)).off + 1, none⟩ = some (.int .i64 x.q))
            (first | go_keep | fail)
            (fail)
          go_wp2
          go_roundw
          case rel => exact ⟨k + 1, by omega, by go_num, by rw [HS1.out, HS2.out, heq], hbel.drew⟩
          case measure => simp [intOf]; omega
        · have hd : decide (x = y) = false := decide_eq_false hxy
          skip
          go_wp2_with (fail)
          go_region_held3 (fun w' => w'.cell? (ad.add (k * 2)) = some (.int .i64 x.m) ∧ w'.cell? ⟨(ad.add (k * 2)).block, (ad.add (k * 2)).off + 1, none⟩ = some (.int .i64 x.q) ∧ w'.cell? (bd.add (k * 2)) = some (.int .i64 y.m) ∧ w'.cell? ⟨(bd.add (k * 2)).block, (bd.add (k * 2)).off + 1, none⟩ = some (.int .i64 y.q))
            (first | go_keep | fail)
            (fail)
          go_wp2
          go_ret
          exact ⟨by rw [decide_eq_false (fun h => hxy (hs3 h))]; rfl, hbel.drew⟩
      · obtain rfl : k = m.length := by omega
        have hq : l = m := by rw [← hn, List.take_length, hn, List.take_length] at heq; exact heq
        go_wp2
        go_ret
        exact ⟨by rw [decide_eq_true hq]; rfl, hbel⟩
  · have hn' : ((l.length : Int) == (m.length : Int)) = false := beq_eq_false_iff_ne.2 (by omega)
    have hn2 : ((l.length : Int) != (m.length : Int)) = true := by simp [bne, hn']
    go_wp2
    go_ret
    exact ⟨by rw [decide_eq_false (fun h => hn (by rw [h]))]; rfl, Below.refl _ _⟩

end Go.Proofs.YtcgcgekefhhjhaaDoor
