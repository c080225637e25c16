/- Chains of texts: slices.Clone, Prune. -/
import Derived.Test.YtflkddllofeiaaaDoorWide
import Derived.Test.YtflkddllofeiaaaDoorChain2
import Derived.Lib.LazyBuf
namespace Go.Proofs.YtflkddllofeiaaaDoor
set_option linter.unusedSimpArgs false
set_option linter.unusedVariables false
open Go.RowKit

theorem vers_one (xs : List VerS) : ∀ u ∈ versC xs, u.oneCell' = true := by
  intro u hu
  obtain ⟨x, _, hx⟩ := List.mem_flatMap.1 hu
  simp [VerS.cs] at hx
  rcases hx with rfl | rfl <;> rfl
theorem own_empty (w : World) (t : TypeId) (s : Nat) (B : Nat) (hB : B ≤ w.heap.size) : (w.alloc (.cells #[] t)).ownsRow B t s (.slice (some ⟨w.heap.size, 0, none⟩) 0 0) 0 [] :=
  ⟨by simp, .inr ⟨w.heap.size, 0, #[], rfl, hB, heap_alloc_new w _, Nat.le_refl _, by unfold maxLen; omega, by simp, by simp⟩⟩

theorem own_base0 {w : World} {base : Nat} {e : TypeId} {size n : Nat} {v : Value} {xs : List Value} (h : w.ownsRow base e size v n xs) : w.ownsRow 0 e size v n xs := by
  refine ⟨h.1, ?_⟩
  rcases h.2 with h0 | ⟨g, cap, cur, he, h1, h2⟩
  · exact .inl h0
  · exact .inr ⟨g, cap, cur, he, Nat.zero_le _, h2⟩
theorem reads_drop {w : World} {B : Nat} {ad : Addr} {L : List VerS} {m : Nat} (h : Reads w B 2 (some ad) L.length (versC L)) (hm : m ≤ L.length) : Reads w B 2 (some (ad.add (m * 2))) (L.drop m).length (versC (L.drop m)) := by
  have hd : (versC L).drop (m * 2) = versC (L.drop m) := flat_drop VerS.len L m
  refine ⟨flat_length VerS.len _, fun h0 => ?_⟩
  simp at h0
  obtain ⟨ad2, e, hb, hc⟩ := h.2 (by omega)
  cases e
  refine ⟨_, rfl, by rw [block_of_add]; exact hb, fun j u hu => ?_⟩
  rw [add_of_add]
  rw [← hd, List.getElem?_drop] at hu
  exact hc _ _ hu
theorem own_capn {w : World} {base : Nat} {e : TypeId} {size n c : Nat} {A : Option Addr} {xs : List Value} (h : w.ownsRow base e size (.slice A n c) n xs) : n ≤ c := by
  rcases h.2 with h0 | ⟨g, cap, cur, he, h1, h2, h3, _⟩
  · obtain ⟨h1, h2⟩ := h0; injection h1 with _ h3 h4; omega
  · cases he; exact h3

set_option maxRecDepth 100000 in
set_option maxHeartbeats 2000000 in
theorem clone_calls (xs : List VerS) (ad : Addr) (c : Nat) (w : World) (hr : Reads w w.heap.size 2 (some ad) xs.length (versC xs)) (h0 : 0 < xs.length) (hlen : xs.length ≤ 9382499223000) :
    Calls Tryd.prog 45 #[.slice (some ad) xs.length c] w
      fun e w' => ∃ v, e = .returned v ∧ w'.ownsRow w.heap.size 86 2 v xs.length (versC xs) ∧ Below w.heap.size w w' := by
  obtain ⟨i0, hi0, hz0, hz1, hz2⟩ := info_parts infoVers
  have hl : (versC xs).length = xs.length * 2 := hr.1
  obtain ⟨ad2, e, hb, hc⟩ := hr.2 h0
  cases e
  have heq := fun W => run_eql_slice_nil (P := Tryd.prog) W _ _ (some ad) xs.length c Tryd.underlying83
  have HC := Lib.hid hc
  have HL := Lib.hid hl
  clear hr hc hl
  go_enter Tryd.func45, Tryd.ntmps45
  go_wp2_with (first | (at_builtin; refine wpList_append_wide_at _ rfl (.tmp 5) (.tmp 6) 83 rfl w.heap.size 86 i0 _ 2 24 Tryd.underlying83 hi0 hz0 hz1 hz2 rfl (by decide) _ 0 [] rfl (own_empty w _ _ _ (Nat.le_refl _)) ad xs.length c (versC xs) rfl HL.out ?_ (vers_one xs) ?_ ?_ ?_ ?_; (intro j u hu; exact (World.cell?_alloc_lt w _ _ (by rw [block_of_add]; exact hb)).trans (HC.out j u hu)); (unfold maxLen; omega); (omega); (simp); intro v1 w2 hown2 hg2 _ hat2))
  go_ret
  refine ⟨_, rfl, by simpa using hown2, ?_⟩
  exact ((Below.refl _ _).alloc (Nat.le_refl _) _).grown hg2 (by simp) (fun k hk => by cases hk; exact Nat.le_refl _)

set_option maxRecDepth 100000 in
set_option maxHeartbeats 2000000 in
theorem prune_calls {p : Nat} {sv : Value} {L : List VerS} (n : Int) (w : World) (h : Chn w p sv L) :
    Calls Tryd.prog 33 #[.pointer (some ⟨p, 0, none⟩), .int .i64 n] w
      fun e w' => ∃ sv', e = .returned (.int .i64 (pruneN L n)) ∧ Chn w' p sv' (pruneL L n) ∧ But w w' (OfC p sv) ∧ (∀ b, sv'.ownBlock = some b → sv.ownBlock = some b ∨ w.heap.size ≤ b) := by
  have H := Lib.hid h
  have hle := leN_le L n
  by_cases hm : leN L n < 2
  · have e1 : pruneN L n = 0 := if_pos hm
    have e2 : pruneL L n = L := if_pos hm
    rw [e1, e2]
    have hm' : ((leN L n : Nat) : Int) < 2 := by omega
    clear e1 e2 hm hle
    go_enter Tryd.func33, Tryd.ntmps33
    go_wp2_with (go_at_call 44; refine (above_calls n w h).mono ?_; rintro e w1 ⟨rfl, hb1⟩)
    go_ret
    exact ⟨_, rfl, H.out.below hb1, But.of_below hb1 _, fun b hb => .inl hb⟩
  · obtain ⟨m, hm2⟩ : ∃ m, leN L n = m + 1 := ⟨leN L n - 1, by omega⟩
    have e1 : pruneN L n = m := by unfold pruneN; rw [if_neg hm]; omega
    have e2 : pruneL L n = L.drop m := by unfold pruneL; rw [if_neg hm, show leN L n - 1 = m by omega]
    rw [e1, e2]
    obtain ⟨A, c, rfl⟩ := own_slice h.row
    have c0 : w.cell? ⟨p, 0, none⟩ = some (.slice A L.length c) := h.blk.cell 0
    have hr := Reads.of_own h.row
    have hcap : L.length ≤ c := own_capn h.row
    have hml : m < L.length := by omega
    have hlen := h.len
    have hm1 : 1 ≤ m := by omega
    obtain ⟨ad, rfl, _⟩ := hr.2 (by omega)
    have hd : (L.drop m).length = L.length - m := by simp
    have HD := Lib.hid hd
    have HR := Lib.hid hr
    have HM := Lib.hid hm2
    have hmi : (1 : Int) ≤ m := by omega
    clear e1 e2 hm hle hr hd hm2
    go_enter Tryd.func33, Tryd.ntmps33
    go_wp2_with (go_at_call 44; refine (above_calls n w h).mono ?_; rintro e w1 ⟨rfl, hb1⟩; rw [HM.out]; have c1 := cell_below hb1 c0)
    have hr1 : Reads w1 w1.heap.size 2 (some (ad.add (m * 2))) (L.drop m).length (versC (L.drop m)) := (reads_drop ((HR.out.below hb1).more hb1.size) (by omega))
    rw [← HD.out]
    refine (clone_calls (L.drop m) (ad.add (m * 2)) (c - m) w1 hr1 (by rw [HD.out]; omega) (by rw [HD.out]; omega)).mono ?_
    rintro e w2 ⟨v, rfl, hown, hb2⟩
    rw [HD.out] at hown
    obtain ⟨BA, bc, rfl⟩ := own_slice hown
    have hk2 := (H.out.blk.below hb1 H.out.blk.lt).below hb2 (H.out.below hb1).blk.lt
    have z2 : w2.frozen? ⟨p, 0, none⟩ = false := hk2.frozen 0
    have c2 : w2.cell? ⟨p, 0, none⟩ = some (.slice (some ad) L.length c) := hk2.cell 0
    have K2 := Lib.hid hk2
    have HO := Lib.hid hown
    clear hk2 hown hr1
    go_wp2
    go_ret
    have hne : (Value.slice BA (L.length - m) bc).ownBlock ≠ some p := own_blk_ne HO.out K2.out (by decide)
    have hb : But w w2 (OfC p (.slice (some ad) L.length c)) := But.of_below (hb1.trans (hb2.mono hb1.size)) _
    refine ⟨_, rfl, ⟨Blk.set_ K2.out 0 _, ?_, H.out.up.drop m, by rw [HD.out]; omega⟩, hb.setCell (fun _ => .inl rfl) _, fun b hb => .inr ?_⟩
    · rw [HD.out]
      refine own_but (S := fun i => i = p) ?_ ((But.refl w2 (fun i => i = p)).setCell (fun _ => rfl) _) (fun b hb he => hne (by rw [hb, he]))
      exact own_base0 HO.out
    · exact Nat.le_trans hb1.size (own_base HO.out hb)
end Go.Proofs.YtflkddllofeiaaaDoor
