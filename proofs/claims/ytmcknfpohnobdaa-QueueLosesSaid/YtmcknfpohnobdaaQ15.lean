/- QueueLoses: the list of what is known: find, without; Pick. -/
import Derived.Test.YtmcknfpohnobdaaQ14
import Derived.Test.YtmcknfpohnobdaaQ10
namespace Go.Proofs.Ytmcknfpohnobdaa
set_option linter.unusedSimpArgs false
set_option linter.unusedVariables false
open Go.RowKit Go.MapKept Go.ChangeMaps Go.Maps

set_option maxRecDepth 100000 in
set_option maxHeartbeats 1000000 in
theorem pick_calls (x n : Int) (w : World) (hn : 1 ≤ n) (hn2 : n ≤ 1000) : Calls Try.prog 7 #[.int .i64 x, .int .i64 n] w fun e w' => ∃ r : Nat, e = .returned (.int .i64 r) ∧ (r : Int) < n ∧ w' = w := by
  have h1 : x.tmod n < n := Int.tmod_lt_of_pos x (by omega)
  have h2 : -n < x.tmod n := Int.lt_tmod_of_pos x (by omega)
  go_enter Try.func7, Try.ntmps7
  rcases Int.lt_or_le (x.tmod n) 0 with h3 | h3
  · have h4 : wrap64 (x.tmod n + n) = x.tmod n + n := (by unfold wrap64; omega)
    go_wp2
    go_ret
    exact ⟨(x.tmod n + n).toNat, by rw [Int.toNat_of_nonneg (by omega)]; first | rfl | simp [h4], by omega, rfl⟩
  · go_wp2
    go_ret
    exact ⟨(x.tmod n).toNat, by rw [Int.toNat_of_nonneg h3]; rfl, by omega, rfl⟩

/-- What the statement knows of an entry. -/
structure Kn where
  id : Int
  A : Option Addr
  keys : List Key
  c : Nat
  dirty : Bool
  out : Bool
def Kn.cs (x : Kn) : List Value := [.int .i64 x.id, .slice x.A x.keys.length x.c, .bool x.dirty, .bool x.out]
theorem Kn.len (x : Kn) : x.cs.length = 4 := rfl
theorem infoKn : (Try.prog.info? 37).map (fun i => (i.zero, i.size, i.bytes)) = some (some (.agg #[.int .i64 0, .slice none 0 0, .bool false, .bool false]), 4, 40) := by kernel_rfl
theorem kn_at {w : World} {B : Nat} {A : Option Addr} {M : List Kn} (h : Reads w B 4 A M.length (M.flatMap Kn.cs)) {k : Nat} (hk : k < M.length) :
    ∃ ad, A = some ad ∧ ad.block < B ∧ w.cell? (ad.add (k * 4)) = some (.int .i64 M[k].id) ∧ w.cell? ⟨(ad.add (k * 4)).block, (ad.add (k * 4)).off + 1, none⟩ = some (.slice M[k].A M[k].keys.length M[k].c) ∧
      w.cell? ⟨(ad.add (k * 4)).block, (ad.add (k * 4)).off + 2, none⟩ = some (.bool M[k].dirty) ∧ w.cell? ⟨(ad.add (k * 4)).block, (ad.add (k * 4)).off + 3, none⟩ = some (.bool M[k].out) := by
  obtain ⟨ad, e, hb, h0, h1⟩ := Reads.elem Kn.len h hk
  exact ⟨ad, e, hb, h0 _ rfl, h1 1 _ (by omega) rfl, h1 2 _ (by omega) rfl, h1 3 _ (by omega) rfl⟩
/-- What find answers. -/
def FindQ (M : List Kn) (id r : Int) : Prop := (r = -1 ∧ ∀ x ∈ M, x.id ≠ id) ∨ ∃ (k : Nat) (hk : k < M.length), r = k ∧ M[k].id = id
set_option maxRecDepth 100000 in
set_option maxHeartbeats 2000000 in
theorem find_calls (M : List Kn) (A : Option Addr) (c : Nat) (id : Int) (B : Nat) (w : World) (hr : Reads w B 4 A M.length (M.flatMap Kn.cs)) (hl : M.length ≤ 4611686018427387904) :
    Calls Try.prog 10 #[.slice A M.length c, .int .i64 id] w fun e w' => ∃ r, e = .returned (.int .i64 r) ∧ FindQ M id r ∧ w' = w := by
  go_enter Try.func10, Try.ntmps10
  go_wp2_with (fail)
  go_loopw [5] (fun i wr => ∃ k : Nat, k ≤ M.length ∧ i = .int .i64 k ∧ (∀ x ∈ M.take k, x.id ≠ id) ∧ wr = w) (fun i _ => M.length - (intOf i).toNat)
  case atStart => exact ⟨0, Nat.zero_le _, rfl, by simp, rfl⟩
  case round =>
    obtain ⟨k, hk, rfl, hno, hwr⟩ := hrel
    subst hwr
    have HNO := Lib.hid hno
    clear hno
    by_cases hlt : k < M.length
    · have hkl : (k : Int) < M.length := by omega
      obtain ⟨ad, rfl, hadb, e0, _⟩ := kn_at hr hlt
      have hT : M.take (k + 1) = M.take k ++ [M[k]] := List.take_succ_eq_append_getElem hlt
      obtain ⟨x, hx⟩ : ∃ x, M[k] = x := ⟨_, rfl⟩
      rw [hx] at e0 hT
      have HX := Lib.hid hx
      have HT := Lib.hid hT
      clear hx hT
      by_cases he : x.id = id
      · have HEI := Lib.hid he
        go_wp2
        go_ret
        exact ⟨_, rfl, .inr ⟨k, hlt, rfl, by rw [HX.out]; exact HEI.out⟩, rfl⟩
      · have HEI := Lib.hid he
        go_wp2
        go_roundw
        case rel =>
          refine ⟨k + 1, by omega, by go_num, fun z hz => ?_, by first | rfl | trivial⟩
          rw [HT.out] at hz
          rcases List.mem_append.1 hz with h | h
          · exact HNO.out z h
          · rw [List.mem_singleton.1 h]; exact HEI.out
        case measure => simp [intOf]; omega
    · obtain rfl : k = M.length := by omega
      have hn := HNO.out
      rw [List.take_length] at hn
      have HN := Lib.hid hn
      clear hn
      go_wp2
      go_ret
      exact ⟨_, rfl, .inl ⟨rfl, HN.out⟩, rfl⟩
end Go.Proofs.Ytmcknfpohnobdaa
