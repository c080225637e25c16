/- QueueKnown: many. -/
import Derived.Test.YtmcknfpohnobdaaDoorKa19
import Derived.Test.YtmcknfpohnobdaaDoorScW19
import Derived.BigQuiet
import Derived.IntWalk
namespace Go.Proofs.YtmcknfpohnobdaaDoor
open Go.RowKit Go.MapKept Go.ChangeMaps Go.Maps
set_option linter.unusedVariables false
set_option linter.unusedSimpArgs false

def kCur : Array Value := #[.int .i64 0, .int .i64 0, .int .i64 1, .int .i64 0, .int .i64 0, .int .i64 1, .int .i64 2199023255552, .int .i64 0, .int .i64 4398046511104, .int .i64 0, .int .i64 (-1), .int .i64 (-9223372036854775808), .int .i64 9223372036854775807, .int .i64 0]
def kList : List Key := [⟨0, 0⟩, ⟨1, 0⟩, ⟨0, 1⟩, ⟨2199023255552, 0⟩, ⟨4398046511104, 0⟩, ⟨-1, -9223372036854775808⟩, ⟨9223372036854775807, 0⟩]
theorem kCur_list : kCur.toList = keysC kList := rfl
structure Ops (w0 w : World) (kb : Nat) (v : Value) (os : List OpQ) : Prop where
  kk : Blk w kb 48 kCur
  row : w.ownsRow w0.heap.size 33 4 v os.length (os.flatMap OpQ.cs)
  at_ : ∀ x ∈ os, KAt w x
  bel : Below w0.heap.size w0 w
theorem infoOp : (Tryd.prog.info? 33).map (fun i => (i.zero, i.size, i.bytes)) = some (some (.agg #[.int .i64 0, .int .i64 0, .int .i64 0, .slice none 0 0]), 4, 48) := by kernel_rfl
section
variable {w0 w w' w1 w2 : World} {kb : Nat} {v v' : Value} {os : List OpQ}
theorem Ops.below (h : Ops w0 w kb v os) (hb : Below w.heap.size w w') : Ops w0 w' kb v os :=
  ⟨h.kk.below hb h.kk.lt, own_but h.row (But.of_below hb (fun _ => False)) (fun _ _ h => h), fun x hx => (h.at_ x hx).below hb, below_after h.bel hb⟩
theorem Ops.push (h : Ops w0 w kb v os) (X : List OpQ) (hb : Below w.heap.size w w1) (hX : ∀ x ∈ X, KAt w1 x) {o : Obj} (hO : w2.ownsRow w0.heap.size 33 4 v' (os.length + X.length) (os.flatMap OpQ.cs ++ X.flatMap OpQ.cs)) (hg : (w1.alloc o).grownBy w2 v.ownBlock) : Ops w0 w2 kb v' (os ++ X) := by
  have h1 := h.below hb
  have hg2 : But w1 w2 (fun i => v.ownBlock = some i) := ((But.refl w1 _).alloc o).grown hg (fun i _ e => e)
  have hkey : ∀ b cur, Blk w1 b 48 cur → Blk w2 b 48 cur := fun b cur hk => hk.but hg2 (own_blk_ne h1.row hk (by decide))
  refine ⟨hkey _ _ h1.kk, by rw [List.length_append, List.flatMap_append]; exact hO, fun x hx => ?_, h1.bel.trans (hg2.to_below (fun i hi => own_base h1.row hi) h1.bel.size)⟩
  rcases List.mem_append.1 hx with hx | hx
  · exact (h1.at_ x hx).keep hkey
  · exact (hX x hx).keep hkey
theorem kCur_at (j : Nat) (hj : j < 7) : ∃ a b : Int, kCur[j * 2]? = some (.int .i64 a) ∧ kCur[j * 2 + 1]? = some (.int .i64 b) := by
  match j, hj with
  | 0, _ => exact ⟨_, _, rfl, rfl⟩
  | 1, _ => exact ⟨_, _, rfl, rfl⟩
  | 2, _ => exact ⟨_, _, rfl, rfl⟩
  | 3, _ => exact ⟨_, _, rfl, rfl⟩
  | 4, _ => exact ⟨_, _, rfl, rfl⟩
  | 5, _ => exact ⟨_, _, rfl, rfl⟩
  | 6, _ => exact ⟨_, _, rfl, rfl⟩
theorem Ops.keyc (h : Ops w0 w kb v os) {j : Nat} {a b : Value} (e : kCur[j * 2]? = some a ∧ kCur[j * 2 + 1]? = some b) : w.cell? ⟨kb, j * 2, none⟩ = some a ∧ w.cell? ⟨kb, j * 2 + 1, none⟩ = some b := by
  rw [h.kk.cell, h.kk.cell]
  exact e
theorem Ops.oneA (h : Ops w0 w kb v os) {j : Nat} {a b : Value} (e : kCur[j * 2]? = some a ∧ kCur[j * 2 + 1]? = some b) (o1 : Obj) : (w.alloc o1).drew.cell? ⟨kb, j * 2, none⟩ = some a ∧ (w.alloc o1).drew.cell? ⟨kb, j * 2 + 1, none⟩ = some b :=
  Ops.keyc (h.below (((Below.refl w.heap.size w).alloc (Nat.le_refl _) o1).drew)) e
theorem Ops.three (h : Ops w0 w kb v os) {j : Nat} {a b : Value} (e : kCur[j * 2]? = some a ∧ kCur[j * 2 + 1]? = some b) (o1 o2 o3 : Obj) : (((w.alloc o1).alloc o2).alloc o3).drew.cell? ⟨kb, j * 2, none⟩ = some a ∧ (((w.alloc o1).alloc o2).alloc o3).drew.cell? ⟨kb, j * 2 + 1, none⟩ = some b :=
  Ops.keyc (h.below ((((Below.refl w.heap.size w).alloc (Nat.le_refl _) o1).alloc (by simp) o2).alloc (by simp; omega) o3).drew) e
theorem kat_none (id : Int) (on kd : Int) (h : wfI id) : KAt w ⟨on, kd, id, none, [], 0⟩ := ⟨h, by simp, .inl ⟨rfl, rfl, rfl⟩⟩
theorem kat_blk (id : Int) (on kd : Int) (h : wfI id) {g c : Nat} {ks : List Key} {cs : Array Value} (hk : Blk w g 48 cs) (hcs : cs.toList = keysC ks) (hl : ks.length ≤ 1000) : KAt w ⟨on, kd, id, some ⟨g, 0, none⟩, ks, c⟩ :=
  ⟨h, hl, .inr ⟨g, 0, cs, rfl, hk, fun j u hu => by rw [Nat.zero_add, ← hu, ← hcs]; simp⟩⟩
end
theorem new_at (w : World) (t : TypeId) (xs : List Value) (g : Nat) (hg : w.heap.size = g) : ∀ j u, xs[j]? = some u → (w.alloc (.cells xs.toArray t)).cell? (Addr.add ⟨g, 0, none⟩ j) = some u := hg ▸ new_cells w t xs
theorem tm64 (a m : Nat) : ((a : Int)).tmod (m : Int) = ((a % m : Nat) : Int) := by rw [Int.tmod_eq_emod_of_nonneg (by omega)]; omega
theorem int_mod {k m c : Nat} (h : k % m = c) : (k : Int) % (m : Int) = (c : Int) := by rw [← h]; omega
theorem wr64 (a : Nat) (h : a ≤ 1000000) : IntKind.i64.wrap (a : Int) = a := IntWalk.i64_in _ (by omega)
theorem kat_sub {w : World} (id : Int) (on kd : Int) (h : wfI id) {g c o : Nat} {ks : List Key} {cs : Array Value} (hk : Blk w g 48 cs) (pre suf : List Value) (hp : pre.length = o) (hcs : cs.toList = pre ++ (keysC ks ++ suf)) (hl : ks.length ≤ 1000) : KAt w ⟨on, kd, id, some ⟨g, o, none⟩, ks, c⟩ :=
  ⟨h, hl, .inr ⟨g, o, cs, rfl, hk, fun j u hu => by
    have h1 : cs.toList[o + j]? = some u := by
      rw [hcs, List.getElem?_append_right (by omega), show o + j - pre.length = j by omega, List.getElem?_append_left (List.getElem?_eq_some_iff.1 hu).1]
      exact hu
    simpa using h1⟩⟩
theorem kat_one {w : World} (id : Int) (on kd : Int) (h : wfI id) {g c j : Nat} {a b : Int} {cs : Array Value} (hk : Blk w g 48 cs) (e : cs[j * 2]? = some (.int .i64 a) ∧ cs[j * 2 + 1]? = some (.int .i64 b)) : KAt w ⟨on, kd, id, some ⟨g, j * 2, none⟩, [⟨a, b⟩], c⟩ :=
  ⟨h, by simp, .inr ⟨g, j * 2, cs, rfl, hk, fun i u hu => by
    have hi : i < 2 := (List.getElem?_eq_some_iff.1 hu).1
    match i, hi with
    | 0, _ => cases hu; exact e.1
    | 1, _ => cases hu; exact e.2⟩⟩
theorem Ops.scp {w0 w : World} {kb : Nat} {A : Option Addr} {c : Nat} {os : List OpQ} (h : Ops w0 w kb (.slice A os.length c) os) (hl : os.length ≤ 1000000) : Scp w A os := ⟨Reads.of_own h.row, h.at_, hl⟩
theorem Scp.calls {w : World} {A : Option Addr} {os : List OpQ} (h : Scp w A os) (r0 r1 : Int) (c : Nat) (hG : HG w) : Calls Tryd.prog 3 #[.agg #[.int .i64 r0, .int .i64 r1], .slice A os.length c] w fun e w' => e = .returned (.bool true) ∧ Below w.heap.size w w' :=
  lawScript_calls r0 r1 os A c w h.rd (fun x hx => (h.ks x hx).in_) (by have := h.le; omega) hG
theorem blk_at (w : World) (t : TypeId) (cs : Array Value) (g : Nat) (hg : w.heap.size = g) : Blk (w.alloc (.cells cs t)) g t cs := hg ▸ Blk.new w t cs
theorem wf_small {n : Int} (h0 : 0 ≤ n) (h1 : n ≤ 1000) : wfI n := by unfold wfI; simp [Lit.wf, IntKind.min, IntKind.max, IntKind.signed, IntKind.bits]; omega

set_option maxRecDepth 100000 in
set_option maxHeartbeats 8000000 in
theorem many_calls (w0 : World) (hG : HG w0) : Calls Tryd.prog 19 #[] w0 fun e w' => e = .returned (.bool true) ∧ Below w0.heap.size w0 w' := by
  obtain ⟨iO, hiO, hzO0, hzO1, hzO2⟩ := info_parts infoOp
  obtain ⟨kb, hkb⟩ : ∃ g, w0.heap.size = g := ⟨_, rfl⟩
  obtain ⟨W1, hW1⟩ : ∃ X, w0.alloc (.cells #[.int .i64 0, .int .i64 0, .int .i64 1, .int .i64 0, .int .i64 0, .int .i64 1, .int .i64 2199023255552, .int .i64 0, .int .i64 4398046511104, .int .i64 0, .int .i64 (-1), .int .i64 (-9223372036854775808), .int .i64 9223372036854775807, .int .i64 0] 48) = X := ⟨_, rfl⟩
  have hK : Blk W1 kb 48 kCur := hkb ▸ hW1 ▸ Blk.new w0 _ _
  have hb1 : Below w0.heap.size w0 W1 := hW1 ▸ (Below.refl _ _).alloc (Nat.le_refl _) _
  have hO1 : Ops w0 W1 kb (.slice none 0 0) [] := ⟨hK, World.ownsRow_nil _ _ _ _, (fun x hx => by cases hx), hb1⟩
  have HHG := Lib.hid hG
  clear hG
  have HW1 := Lib.hid hW1
  have HKB := Lib.hid hkb
  have HO1 := Lib.hid hO1
  clear hK hb1 hO1 hW1 hkb
  go_enter Tryd.func19, Tryd.ntmps19
  go_wp2_with (fail)
  rw [HW1.out, HKB.out]
  go_loopw [2, 3] (fun s2 i wr => ∃ (k : Nat) (os : List OpQ) (v : Value), k ≤ 20 ∧ s2 = v ∧ i = .int .i64 k ∧ Ops w0 wr kb v os ∧ os.length ≤ k) (fun _ i _ => 20 - (intOf i).toNat)
  case atStart => exact ⟨0, [], _, by omega, rfl, rfl, HO1.out, Nat.le_refl _⟩
  case round =>
    clear HO1
    obtain ⟨k, os, v, hk, rfl, rfl, hO, hol⟩ := hrel
    have HO := Lib.hid hO
    clear hO
    by_cases hlt : k < 20
    · have hkl : (k : Int) < 20 := by omega
      have HMX := Lib.hid (show os.length + 1 ≤ maxLen by unfold maxLen; omega)
      have HMB := Lib.hid (show (os.length + 1) * 48 ≤ 140737488355328 by omega)
      have HWF := Lib.hid (show wfI k from wf_small (by omega) (by omega))
      obtain ⟨j1, hj1⟩ : ∃ j, k % 7 = j := ⟨_, rfl⟩
      obtain ⟨m2, hm2⟩ : ∃ m, k + 1 = m := ⟨_, rfl⟩
      obtain ⟨j3, hj3⟩ : ∃ j, m2 % 7 = j := ⟨_, rfl⟩
      obtain ⟨m4, hm4⟩ : ∃ m, 3 * k = m := ⟨_, rfl⟩
      obtain ⟨m5, hm5⟩ : ∃ m, m4 + 2 = m := ⟨_, rfl⟩
      obtain ⟨j6, hj6⟩ : ∃ j, m5 % 7 = j := ⟨_, rfl⟩
      obtain ⟨m7, hm7⟩ : ∃ m, 5 * k = m := ⟨_, rfl⟩
      obtain ⟨m8, hm8⟩ : ∃ m, m7 + 4 = m := ⟨_, rfl⟩
      obtain ⟨j9, hj9⟩ : ∃ j, m8 % 7 = j := ⟨_, rfl⟩
      have nj1 : (j1 : Int) < 7 := by omega
      have zj1 : j1 ≤ 1000000 := by omega
      have zm2 : m2 ≤ 1000000 := by omega
      have nj3 : (j3 : Int) < 7 := by omega
      have zj3 : j3 ≤ 1000000 := by omega
      have zm4 : m4 ≤ 1000000 := by omega
      have zm5 : m5 ≤ 1000000 := by omega
      have nj6 : (j6 : Int) < 7 := by omega
      have zj6 : j6 ≤ 1000000 := by omega
      have zm7 : m7 ≤ 1000000 := by omega
      have zm8 : m8 ≤ 1000000 := by omega
      have nj9 : (j9 : Int) < 7 := by omega
      have zj9 : j9 ≤ 1000000 := by omega
      have lj1 : j1 < 7 := by omega
      have ij1 : (j1 : Int) < 7 := by omega
      have lj3 : j3 < 7 := by omega
      have ij3 : (j3 : Int) < 7 := by omega
      have lj6 : j6 < 7 := by omega
      have ij6 : (j6 : Int) < 7 := by omega
      have lj9 : j9 < 7 := by omega
      have ij9 : (j9 : Int) < 7 := by omega
      have gj1 : (k : Int).tmod 7 = (j1 : Int) := by rw [← hj1]; exact tm64 k 7
      have wj1 : IntKind.i64.wrap (j1 : Int) = j1 := wr64 _ zj1
      have vm2 : IntKind.i64.wrap ((k : Int) + 1) = m2 := by rw [← wr64 m2 zm2, ← hm2]; rfl
      have gj3 : (m2 : Int).tmod 7 = (j3 : Int) := by rw [← hj3]; exact tm64 m2 7
      have wj3 : IntKind.i64.wrap (j3 : Int) = j3 := wr64 _ zj3
      have vm4 : IntKind.i64.wrap (3 * (k : Int)) = m4 := by rw [← wr64 m4 zm4, ← hm4]; rfl
      have vm5 : IntKind.i64.wrap ((m4 : Int) + 2) = m5 := by rw [← wr64 m5 zm5, ← hm5]; rfl
      have gj6 : (m5 : Int).tmod 7 = (j6 : Int) := by rw [← hj6]; exact tm64 m5 7
      have wj6 : IntKind.i64.wrap (j6 : Int) = j6 := wr64 _ zj6
      have vm7 : IntKind.i64.wrap (5 * (k : Int)) = m7 := by rw [← wr64 m7 zm7, ← hm7]; rfl
      have vm8 : IntKind.i64.wrap ((m7 : Int) + 4) = m8 := by rw [← wr64 m8 zm8, ← hm8]; rfl
      have gj9 : (m8 : Int).tmod 7 = (j9 : Int) := by rw [← hj9]; exact tm64 m8 7
      have wj9 : IntKind.i64.wrap (j9 : Int) = j9 := wr64 _ zj9
      obtain ⟨aj1, bj1, ej1⟩ := kCur_at j1 lj1
      obtain ⟨cj1, dj1⟩ := HO.out.keyc ej1
      have Ej1 := Lib.hid ej1
      clear ej1
      obtain ⟨aj3, bj3, ej3⟩ := kCur_at j3 lj3
      obtain ⟨cj3, dj3⟩ := HO.out.keyc ej3
      have Ej3 := Lib.hid ej3
      clear ej3
      obtain ⟨aj6, bj6, ej6⟩ := kCur_at j6 lj6
      obtain ⟨cj6, dj6⟩ := HO.out.keyc ej6
      have Ej6 := Lib.hid ej6
      clear ej6
      obtain ⟨aj9, bj9, ej9⟩ := kCur_at j9 lj9
      obtain ⟨cj9, dj9⟩ := HO.out.keyc ej9
      have Ej9 := Lib.hid ej9
      clear ej9
      clear zj1 hj1 zm2 hm2 zj3 hj3 zm4 hm4 zm5 hm5 zj6 hj6 zm7 hm7 zm8 hm8 zj9 hj9
      go_wp2_with (fail)
      have hOW := HO.out.below (w' := wr.drew) (Below.refl _ _).drew
      have HOW := Lib.hid hOW
      have HMZ := Lib.hid (show ∀ o1 o2 : Obj, w0.heap.size ≤ ((wr.drew.alloc o1).alloc o2).heap.size from fun o1 o2 => by have := hOW.bel.size; simp at this ⊢; omega)
      have HOL := Lib.hid hol
      clear hOW hol
      go_region_held3 (fun w' => w'.cell? ⟨kb, j1 * 2, none⟩ = some (.int .i64 aj1) ∧ w'.cell? ⟨kb, j1 * 2 + 1, none⟩ = some (.int .i64 bj1) ∧ w'.cell? ⟨kb, j3 * 2, none⟩ = some (.int .i64 aj3) ∧ w'.cell? ⟨kb, j3 * 2 + 1, none⟩ = some (.int .i64 bj3) ∧ w'.cell? ⟨kb, j6 * 2, none⟩ = some (.int .i64 aj6) ∧ w'.cell? ⟨kb, j6 * 2 + 1, none⟩ = some (.int .i64 bj6) ∧ w'.cell? ⟨kb, j9 * 2, none⟩ = some (.int .i64 aj9) ∧ w'.cell? ⟨kb, j9 * 2 + 1, none⟩ = some (.int .i64 bj9))
        (first | go_keep | fail)
        (first
          | (rw [if_pos (by rfl)]; refine wp_append_own _ (.tmp 22) (.tmp 51) 23 rfl w0.heap.size 33 iO _ 4 48 Tryd.underlying23 hiO hzO0 hzO1 hzO2 rfl (by decide) _ os.length (os.flatMap OpQ.cs) rfl ((HOW.out.row.alloc _).alloc _) ⟨wr.heap.size + 1, 0, none⟩ 1 1 [.int .i64 0, .int .i64 0, .int .i64 k, .slice (some ⟨wr.heap.size, 0, none⟩) 4 4] rfl rfl ?_ ?_ ?_ ?_ ?_ ?_; exact new_at (wr.drew.alloc (.cells #[.int .i64 aj1, .int .i64 bj1, .int .i64 aj3, .int .i64 bj3, .int .i64 aj6, .int .i64 bj6, .int .i64 aj9, .int .i64 bj9] 48)) 33 [.int .i64 0, .int .i64 0, .int .i64 k, .slice (some ⟨wr.heap.size, 0, none⟩) 4 4] (wr.heap.size + 1) (by simp); (simp [Value.oneCell']); exact HMX.out; exact HMB.out; exact HMZ.out _ _; intro vw2 w2 hown hg _; have hP := HOW.out.push [⟨0, 0, k, some ⟨wr.heap.size, 0, none⟩, [⟨aj1, bj1⟩, ⟨aj3, bj3⟩, ⟨aj6, bj6⟩, ⟨aj9, bj9⟩], 4⟩] ((Below.refl _ _).alloc (Nat.le_refl _) (.cells #[.int .i64 aj1, .int .i64 bj1, .int .i64 aj3, .int .i64 bj3, .int .i64 aj6, .int .i64 bj6, .int .i64 aj9, .int .i64 bj9] 48)) (List.forall_mem_cons.2 ⟨kat_blk _ _ _ HWF.out (Blk.new wr.drew _ _) rfl (by simp), (fun _ h => by cases h)⟩) hown hg; obtain ⟨cj12, dj12⟩ := hP.keyc Ej1.out; obtain ⟨cj32, dj32⟩ := hP.keyc Ej3.out; obtain ⟨cj62, dj62⟩ := hP.keyc Ej6.out; obtain ⟨cj92, dj92⟩ := hP.keyc Ej9.out; have HP := Lib.hid hP; clear hown hg hP))
      clear gj1 wj1 nj1 gj3 wj3 nj3 gj6 wj6 nj6 gj9 wj9 nj9 vm2 vm4 vm5 vm7 vm8
      go_wp2_with (fail)
      go_roundw
      case rel => exact ⟨k + 1, _, _, by omega, rfl, by go_num, HP.out, by have := HOL.out; simp; omega⟩
      case measure => simp [intOf]; omega
    · obtain rfl : k = 20 := by omega
      obtain ⟨wo, rfl⟩ : ∃ wo : World, wo = wr := ⟨_, rfl⟩
      go_wp2_with (fail)
      go_loopw [2, 4] (fun s2 i wr => ∃ (k : Nat) (os : List OpQ) (v : Value), k ≤ 60 ∧ s2 = v ∧ i = .int .i64 k ∧ Ops w0 wr kb v os ∧ os.length ≤ 20 + 12 * k) (fun _ i _ => 60 - (intOf i).toNat)
      case atStart => exact ⟨0, os, _, by omega, rfl, rfl, HO.out, by omega⟩
      case round =>
        clear HO hol os
        obtain ⟨k, os, v, hk, rfl, rfl, hO, hol⟩ := hrel
        have HO := Lib.hid hO
        clear hO
        by_cases hlt : k < 60
        · have hkl : (k : Int) < 60 := by omega
          have HMX := Lib.hid (show os.length + 8 ≤ maxLen by unfold maxLen; omega)
          have HMB := Lib.hid (show (os.length + 8) * 48 ≤ 140737488355328 by omega)
          have hd3 : k % 3 = 0 ∨ ¬ k % 3 = 0 := by omega
          have hd6 : k % 6 = 0 ∨ ¬ k % 6 = 0 := by omega
          have HD3 := Lib.hid hd3
          have HD6 := Lib.hid hd6
          clear hd3 hd6
          obtain ⟨m1, hm1⟩ : ∃ m, k * 7 = m := ⟨_, rfl⟩
          obtain ⟨j2, hj2⟩ : ∃ j, m1 % 20 = j := ⟨_, rfl⟩
          obtain ⟨j3, hj3⟩ : ∃ j, k % 7 = j := ⟨_, rfl⟩
          obtain ⟨m4, hm4⟩ : ∃ m, k + 3 = m := ⟨_, rfl⟩
          obtain ⟨j5, hj5⟩ : ∃ j, m4 % 7 = j := ⟨_, rfl⟩
          obtain ⟨j6, hj6⟩ : ∃ j, k % 5 = j := ⟨_, rfl⟩
          obtain ⟨m7, hm7⟩ : ∃ m, j2 + k = m := ⟨_, rfl⟩
          obtain ⟨j8, hj8⟩ : ∃ j, m7 % 20 = j := ⟨_, rfl⟩
          have zm1 : m1 ≤ 1000000 := by omega
          have nj2 : (j2 : Int) < 20 := by omega
          have zj2 : j2 ≤ 1000000 := by omega
          have nj3 : (j3 : Int) < 7 := by omega
          have zj3 : j3 ≤ 1000000 := by omega
          have zm4 : m4 ≤ 1000000 := by omega
          have nj5 : (j5 : Int) < 7 := by omega
          have zj5 : j5 ≤ 1000000 := by omega
          have nj6 : (j6 : Int) < 5 := by omega
          have zj6 : j6 ≤ 1000000 := by omega
          have zm7 : m7 ≤ 1000000 := by omega
          have nj8 : (j8 : Int) < 20 := by omega
          have zj8 : j8 ≤ 1000000 := by omega
          have lj3 : j3 < 7 := by omega
          have ij3 : (j3 : Int) < 7 := by omega
          have lj5 : j5 < 7 := by omega
          have ij5 : (j5 : Int) < 7 := by omega
          have lj6 : j6 < 7 := by omega
          have ij6 : (j6 : Int) < 7 := by omega
          have HQ1 := Lib.hid (show wfI j2 from wf_small (by omega) (by omega))
          have HQ2 := Lib.hid (show wfI j8 from wf_small (by omega) (by omega))
          have vm1 : IntKind.i64.wrap ((k : Int) * 7) = m1 := by rw [← wr64 m1 zm1, ← hm1]; rfl
          have gj2 : (m1 : Int).tmod 20 = (j2 : Int) := by rw [← hj2]; exact tm64 m1 20
          have wj2 : IntKind.i64.wrap (j2 : Int) = j2 := wr64 _ zj2
          have gj3 : (k : Int).tmod 7 = (j3 : Int) := by rw [← hj3]; exact tm64 k 7
          have wj3 : IntKind.i64.wrap (j3 : Int) = j3 := wr64 _ zj3
          have vm4 : IntKind.i64.wrap ((k : Int) + 3) = m4 := by rw [← wr64 m4 zm4, ← hm4]; rfl
          have gj5 : (m4 : Int).tmod 7 = (j5 : Int) := by rw [← hj5]; exact tm64 m4 7
          have wj5 : IntKind.i64.wrap (j5 : Int) = j5 := wr64 _ zj5
          have gj6 : (k : Int).tmod 5 = (j6 : Int) := by rw [← hj6]; exact tm64 k 5
          have wj6 : IntKind.i64.wrap (j6 : Int) = j6 := wr64 _ zj6
          have vm7 : IntKind.i64.wrap ((j2 : Int) + k) = m7 := by rw [← wr64 m7 zm7, ← hm7]; rfl
          have gj8 : (m7 : Int).tmod 20 = (j8 : Int) := by rw [← hj8]; exact tm64 m7 20
          have wj8 : IntKind.i64.wrap (j8 : Int) = j8 := wr64 _ zj8
          obtain ⟨aj3, bj3, ej3⟩ := kCur_at j3 lj3
          obtain ⟨cj3, dj3⟩ := HO.out.keyc ej3
          have Ej3 := Lib.hid ej3
          clear ej3
          obtain ⟨aj5, bj5, ej5⟩ := kCur_at j5 lj5
          obtain ⟨cj5, dj5⟩ := HO.out.keyc ej5
          have Ej5 := Lib.hid ej5
          clear ej5
          obtain ⟨aj6, bj6, ej6⟩ := kCur_at j6 lj6
          obtain ⟨cj6, dj6⟩ := HO.out.keyc ej6
          have Ej6 := Lib.hid ej6
          clear ej6
          clear zm1 hm1 zj2 hj2 zj3 hj3 zm4 hm4 zj5 hj5 zj6 hj6 zm7 hm7 zj8 hj8
          go_upto_region 11 with fail
          go_cut [2] from 53 to 116 (fun s2 w' => ∃ (os2 : List OpQ) (v2 : Value), s2 = v2 ∧ Ops w0 w' kb v2 os2 ∧ os2.length ≤ 20 + 12 * k + 8)
          case first =>
            have hOW := HO.out.below (w' := wr.drew) (Below.refl _ _).drew
            have HOW := Lib.hid hOW
            have HMZ := Lib.hid (show ∀ o1 o2 o3 : Obj, w0.heap.size ≤ (((wr.drew.alloc o1).alloc o2).alloc o3).heap.size from fun o1 o2 o3 => by have := hOW.bel.size; simp at this ⊢; omega)
            have HOL := Lib.hid hol
            clear hOW hol
            go_region_held3 (fun w' => w'.cell? ⟨kb, j3 * 2, none⟩ = some (.int .i64 aj3) ∧ w'.cell? ⟨kb, j3 * 2 + 1, none⟩ = some (.int .i64 bj3) ∧ w'.cell? ⟨kb, j5 * 2, none⟩ = some (.int .i64 aj5) ∧ w'.cell? ⟨kb, j5 * 2 + 1, none⟩ = some (.int .i64 bj5) ∧ w'.cell? ⟨kb, j6 * 2, none⟩ = some (.int .i64 aj6) ∧ w'.cell? ⟨kb, j6 * 2 + 1, none⟩ = some (.int .i64 bj6))
              (first | exact ⟨(HO.out.three Ej3.out _ _ _).1, (HO.out.three Ej3.out _ _ _).2, (HO.out.three Ej5.out _ _ _).1, (HO.out.three Ej5.out _ _ _).2, (HO.out.three Ej6.out _ _ _).1, (HO.out.three Ej6.out _ _ _).2⟩ | go_keep)
              (first
                | (rw [if_pos (by rfl)]; refine wp_append_own _ (.tmp 60) (.tmp 92) 23 rfl w0.heap.size 33 iO _ 4 48 Tryd.underlying23 hiO hzO0 hzO1 hzO2 rfl (by decide) _ os.length (os.flatMap OpQ.cs) rfl (((HOW.out.row.alloc _).alloc _).alloc _) ⟨wr.heap.size + 1 + 1, 0, none⟩ 8 8 [.int .i64 0, .int .i64 1, .int .i64 0, .slice (some ⟨wr.heap.size, 0, none⟩) 1 1, .int .i64 0, .int .i64 7, .int .i64 0, .slice none 0 0, .int .i64 0, .int .i64 2, .int .i64 0, .slice none 0 0, .int .i64 0, .int .i64 1, .int .i64 0, .slice (some ⟨(wr.heap.size + 1), 0, none⟩) 2 2, .int .i64 0, .int .i64 3, .int .i64 j2, .slice none 0 0, .int .i64 0, .int .i64 3, .int .i64 j8, .slice none 0 0, .int .i64 0, .int .i64 5, .int .i64 0, .slice none 0 0, .int .i64 0, .int .i64 6, .int .i64 0, .slice none 0 0] rfl rfl ?_ ?_ ?_ ?_ ?_ ?_; exact new_at ((wr.drew.alloc (.cells #[.int .i64 aj3, .int .i64 bj3] 48)).alloc (.cells #[.int .i64 aj5, .int .i64 bj5, .int .i64 aj6, .int .i64 bj6] 48)) 33 [.int .i64 0, .int .i64 1, .int .i64 0, .slice (some ⟨wr.heap.size, 0, none⟩) 1 1, .int .i64 0, .int .i64 7, .int .i64 0, .slice none 0 0, .int .i64 0, .int .i64 2, .int .i64 0, .slice none 0 0, .int .i64 0, .int .i64 1, .int .i64 0, .slice (some ⟨(wr.heap.size + 1), 0, none⟩) 2 2, .int .i64 0, .int .i64 3, .int .i64 j2, .slice none 0 0, .int .i64 0, .int .i64 3, .int .i64 j8, .slice none 0 0, .int .i64 0, .int .i64 5, .int .i64 0, .slice none 0 0, .int .i64 0, .int .i64 6, .int .i64 0, .slice none 0 0] (wr.heap.size + 1 + 1) (by simp); (simp [Value.oneCell']); exact HMX.out; exact HMB.out; exact HMZ.out _ _ _; intro vw2 w2 hown hg _; have hP := HOW.out.push [⟨0, 1, 0, some ⟨wr.heap.size, 0, none⟩, [⟨aj3, bj3⟩], 1⟩, ⟨0, 7, 0, none, [], 0⟩, ⟨0, 2, 0, none, [], 0⟩, ⟨0, 1, 0, some ⟨(wr.heap.size + 1), 0, none⟩, [⟨aj5, bj5⟩, ⟨aj6, bj6⟩], 2⟩, ⟨0, 3, j2, none, [], 0⟩, ⟨0, 3, j8, none, [], 0⟩, ⟨0, 5, 0, none, [], 0⟩, ⟨0, 6, 0, none, [], 0⟩] (((Below.refl _ _).alloc (Nat.le_refl _) (.cells #[.int .i64 aj3, .int .i64 bj3] 48)).alloc (by simp) (.cells #[.int .i64 aj5, .int .i64 bj5, .int .i64 aj6, .int .i64 bj6] 48)) (List.forall_mem_cons.2 ⟨kat_blk _ _ _ (wf_small (by omega) (by omega)) ((blk_at wr.drew 48 #[.int .i64 aj3, .int .i64 bj3] _ rfl).alloc _) rfl (by simp), (List.forall_mem_cons.2 ⟨kat_none _ _ _ (wf_small (by omega) (by omega)), (List.forall_mem_cons.2 ⟨kat_none _ _ _ (wf_small (by omega) (by omega)), (List.forall_mem_cons.2 ⟨kat_blk _ _ _ (wf_small (by omega) (by omega)) (blk_at (wr.drew.alloc (.cells #[.int .i64 aj3, .int .i64 bj3] 48)) 48 #[.int .i64 aj5, .int .i64 bj5, .int .i64 aj6, .int .i64 bj6] _ (by simp)) rfl (by simp), (List.forall_mem_cons.2 ⟨kat_none _ _ _ HQ1.out, (List.forall_mem_cons.2 ⟨kat_none _ _ _ HQ2.out, (List.forall_mem_cons.2 ⟨kat_none _ _ _ (wf_small (by omega) (by omega)), (List.forall_mem_cons.2 ⟨kat_none _ _ _ (wf_small (by omega) (by omega)), (fun _ h => by cases h)⟩)⟩)⟩)⟩)⟩)⟩)⟩)⟩) hown hg; obtain ⟨cj32, dj32⟩ := hP.keyc Ej3.out; obtain ⟨cj52, dj52⟩ := hP.keyc Ej5.out; obtain ⟨cj62, dj62⟩ := hP.keyc Ej6.out; have HP := Lib.hid hP; clear hown hg hP)
                | (rw [if_pos (by rfl)]; refine wp_append_own _ (.tmp 60) (.tmp 92) 23 rfl w0.heap.size 33 iO _ 4 48 Tryd.underlying23 hiO hzO0 hzO1 hzO2 rfl (by decide) _ os.length (os.flatMap OpQ.cs) rfl (((HOW.out.row.alloc _).alloc _).alloc _) ⟨wr.heap.size + 1 + 1, 0, none⟩ 8 8 [.int .i64 0, .int .i64 1, .int .i64 0, .slice (some ⟨(wr.heap.size + 1), 0, none⟩) 1 1, .int .i64 0, .int .i64 7, .int .i64 0, .slice none 0 0, .int .i64 0, .int .i64 2, .int .i64 0, .slice none 0 0, .int .i64 0, .int .i64 1, .int .i64 0, .slice (some ⟨wr.heap.size, 0, none⟩) 2 2, .int .i64 0, .int .i64 3, .int .i64 j2, .slice none 0 0, .int .i64 0, .int .i64 3, .int .i64 j8, .slice none 0 0, .int .i64 0, .int .i64 5, .int .i64 0, .slice none 0 0, .int .i64 0, .int .i64 6, .int .i64 0, .slice none 0 0] rfl rfl ?_ ?_ ?_ ?_ ?_ ?_; exact new_at ((wr.drew.alloc (.cells #[.int .i64 aj5, .int .i64 bj5, .int .i64 aj6, .int .i64 bj6] 48)).alloc (.cells #[.int .i64 aj3, .int .i64 bj3] 48)) 33 [.int .i64 0, .int .i64 1, .int .i64 0, .slice (some ⟨(wr.heap.size + 1), 0, none⟩) 1 1, .int .i64 0, .int .i64 7, .int .i64 0, .slice none 0 0, .int .i64 0, .int .i64 2, .int .i64 0, .slice none 0 0, .int .i64 0, .int .i64 1, .int .i64 0, .slice (some ⟨wr.heap.size, 0, none⟩) 2 2, .int .i64 0, .int .i64 3, .int .i64 j2, .slice none 0 0, .int .i64 0, .int .i64 3, .int .i64 j8, .slice none 0 0, .int .i64 0, .int .i64 5, .int .i64 0, .slice none 0 0, .int .i64 0, .int .i64 6, .int .i64 0, .slice none 0 0] (wr.heap.size + 1 + 1) (by simp); (simp [Value.oneCell']); exact HMX.out; exact HMB.out; exact HMZ.out _ _ _; intro vw2 w2 hown hg _; have hP := HOW.out.push [⟨0, 1, 0, some ⟨(wr.heap.size + 1), 0, none⟩, [⟨aj3, bj3⟩], 1⟩, ⟨0, 7, 0, none, [], 0⟩, ⟨0, 2, 0, none, [], 0⟩, ⟨0, 1, 0, some ⟨wr.heap.size, 0, none⟩, [⟨aj5, bj5⟩, ⟨aj6, bj6⟩], 2⟩, ⟨0, 3, j2, none, [], 0⟩, ⟨0, 3, j8, none, [], 0⟩, ⟨0, 5, 0, none, [], 0⟩, ⟨0, 6, 0, none, [], 0⟩] (((Below.refl _ _).alloc (Nat.le_refl _) (.cells #[.int .i64 aj5, .int .i64 bj5, .int .i64 aj6, .int .i64 bj6] 48)).alloc (by simp) (.cells #[.int .i64 aj3, .int .i64 bj3] 48)) (List.forall_mem_cons.2 ⟨kat_blk _ _ _ (wf_small (by omega) (by omega)) (blk_at (wr.drew.alloc (.cells #[.int .i64 aj5, .int .i64 bj5, .int .i64 aj6, .int .i64 bj6] 48)) 48 #[.int .i64 aj3, .int .i64 bj3] _ (by simp)) rfl (by simp), (List.forall_mem_cons.2 ⟨kat_none _ _ _ (wf_small (by omega) (by omega)), (List.forall_mem_cons.2 ⟨kat_none _ _ _ (wf_small (by omega) (by omega)), (List.forall_mem_cons.2 ⟨kat_blk _ _ _ (wf_small (by omega) (by omega)) ((blk_at wr.drew 48 #[.int .i64 aj5, .int .i64 bj5, .int .i64 aj6, .int .i64 bj6] _ rfl).alloc _) rfl (by simp), (List.forall_mem_cons.2 ⟨kat_none _ _ _ HQ1.out, (List.forall_mem_cons.2 ⟨kat_none _ _ _ HQ2.out, (List.forall_mem_cons.2 ⟨kat_none _ _ _ (wf_small (by omega) (by omega)), (List.forall_mem_cons.2 ⟨kat_none _ _ _ (wf_small (by omega) (by omega)), (fun _ h => by cases h)⟩)⟩)⟩)⟩)⟩)⟩)⟩)⟩) hown hg; obtain ⟨cj32, dj32⟩ := hP.keyc Ej3.out; obtain ⟨cj52, dj52⟩ := hP.keyc Ej5.out; obtain ⟨cj62, dj62⟩ := hP.keyc Ej6.out; have HP := Lib.hid hP; clear hown hg hP))
            all_goals
              go_wp2_with (fail)
              go_meet
              case rel => exact ⟨_, _, rfl, HP.out, by have := HOL.out; simp; omega⟩
          case rest =>
            obtain ⟨os, v, rfl, hO, hol2⟩ := hcut
            clear HO hol HMX HMB cj3 dj3 Ej3 cj5 dj5 Ej5 cj6 dj6 Ej6
            have hbs := hO.bel.size
            have HO := Lib.hid hO
            clear hO
            rcases HD3.out with h3 | h3
            · have h3i : ((k : Int) % 3 == 0) = true := by simp; omega
              have HMX := Lib.hid (show os.length + 3 ≤ maxLen by unfold maxLen; omega)
              have HMB := Lib.hid (show (os.length + 3) * 48 ≤ 140737488355328 by omega)
              have HMZ := Lib.hid (show ∀ o1 : Obj, w0.heap.size ≤ (wc.alloc o1).heap.size from fun o1 => by simp; omega)
              have HL9 := Lib.hid hol2
              clear hol2
              rcases HD6.out with h6 | h6
              · have h6i : ((k : Int) % 6 == 0) = true := by simp; omega
                have HMX2 := Lib.hid (show ∀ l : List OpQ, l.length = 3 → (os ++ l).length + 1 ≤ maxLen from fun l hl => by unfold maxLen; have := HL9.out; simp; omega)
                have HMB2 := Lib.hid (show ∀ l : List OpQ, l.length = 3 → ((os ++ l).length + 1) * 48 ≤ 140737488355328 from fun l hl => by have := HL9.out; simp; omega)
                have h4 : k % 4 = 0 ∨ k % 4 = 2 := by omega
                have HK60 := Lib.hid (show k < 60 from hlt)
                rcases h4 with h4 | h4
                · have h4i := int_mod h4
                  go_wp2_with (first
                    | (at_builtin; refine wpList_append_own _ rfl (.tmp 97) (.tmp 103) 23 rfl w0.heap.size 33 iO _ 4 48 Tryd.underlying23 hiO hzO0 hzO1 hzO2 rfl (by decide) _ os.length (os.flatMap OpQ.cs) rfl (HO.out.row.alloc _) ⟨wc.heap.size, 0, none⟩ 3 3 [.int .i64 0, .int .i64 4, .int .i64 j2, .slice none 0 0, .int .i64 0, .int .i64 1, .int .i64 0, .slice (some ⟨kb, 0, none⟩) 7 7, .int .i64 0, .int .i64 7, .int .i64 0, .slice none 0 0] rfl rfl ?_ ?_ ?_ ?_ ?_ ?_; exact new_at wc 33 [.int .i64 0, .int .i64 4, .int .i64 j2, .slice none 0 0, .int .i64 0, .int .i64 1, .int .i64 0, .slice (some ⟨kb, 0, none⟩) 7 7, .int .i64 0, .int .i64 7, .int .i64 0, .slice none 0 0] (wc.heap.size) (by simp); (simp [Value.oneCell']); exact HMX.out; exact HMB.out; exact HMZ.out _; intro vw5 w5 hown hg _; have hP := HO.out.push [⟨0, 4, j2, none, [], 0⟩, ⟨0, 1, 0, some ⟨kb, 0, none⟩, kList, 7⟩, ⟨0, 7, 0, none, [], 0⟩] (Below.refl _ _) (List.forall_mem_cons.2 ⟨kat_none _ _ _ HQ1.out, (List.forall_mem_cons.2 ⟨kat_blk _ _ _ (wf_small (by omega) (by omega)) HO.out.kk kCur_list (by decide), (List.forall_mem_cons.2 ⟨kat_none _ _ _ (wf_small (by omega) (by omega)), (fun _ h => by cases h)⟩)⟩)⟩) hown hg; have HP5 := Lib.hid hP; clear hown hg hP)
                    | (at_builtin; refine wpList_append_own _ rfl (.tmp 108) (.tmp 115) 23 rfl w0.heap.size 33 iO _ 4 48 Tryd.underlying23 hiO hzO0 hzO1 hzO2 rfl (by decide) _ (os ++ ([⟨0, 4, j2, none, [], 0⟩, ⟨0, 1, 0, some ⟨kb, 0, none⟩, kList, 7⟩, ⟨0, 7, 0, none, [], 0⟩] : List OpQ)).length ((os ++ ([⟨0, 4, j2, none, [], 0⟩, ⟨0, 1, 0, some ⟨kb, 0, none⟩, kList, 7⟩, ⟨0, 7, 0, none, [], 0⟩] : List OpQ)).flatMap OpQ.cs) rfl (HP5.out.row.alloc _) ⟨w5.heap.size, 0, none⟩ 1 1 [.int .i64 0, .int .i64 0, .int .i64 j2, .slice (some ⟨kb, 0, none⟩) 7 7] rfl rfl ?_ ?_ ?_ ?_ ?_ ?_; exact new_at w5 33 [.int .i64 0, .int .i64 0, .int .i64 j2, .slice (some ⟨kb, 0, none⟩) 7 7] (w5.heap.size) (by simp); (simp [Value.oneCell']); exact HMX2.out _ rfl; exact HMB2.out _ rfl; (have := HP5.out.bel.size; simp; omega); intro vw7 w7 hown hg _; have hP := HP5.out.push [⟨0, 0, j2, some ⟨kb, 0, none⟩, kList.drop 0, 7⟩] (Below.refl _ _) (List.forall_mem_cons.2 ⟨kat_sub _ _ _ HQ1.out HP5.out.kk (kCur.toList.take 0) [] rfl rfl (by decide), (fun _ h => by cases h)⟩) hown hg; have HP15 := Lib.hid hP; clear hown hg hP))
                  go_roundw
                  case rel =>
                    (repeat apply Exists.intro)
                    exact ⟨⟨k + 1, _, _, by omega, rfl, rfl, HP15.out, by have := HL9.out; simp; omega⟩, rfl⟩
                  case measure => simp [intOf]; omega
                · have h4i := int_mod h4
                  go_wp2_with (first
                    | (at_builtin; refine wpList_append_own _ rfl (.tmp 97) (.tmp 103) 23 rfl w0.heap.size 33 iO _ 4 48 Tryd.underlying23 hiO hzO0 hzO1 hzO2 rfl (by decide) _ os.length (os.flatMap OpQ.cs) rfl (HO.out.row.alloc _) ⟨wc.heap.size, 0, none⟩ 3 3 [.int .i64 0, .int .i64 4, .int .i64 j2, .slice none 0 0, .int .i64 0, .int .i64 1, .int .i64 0, .slice (some ⟨kb, 0, none⟩) 7 7, .int .i64 0, .int .i64 7, .int .i64 0, .slice none 0 0] rfl rfl ?_ ?_ ?_ ?_ ?_ ?_; exact new_at wc 33 [.int .i64 0, .int .i64 4, .int .i64 j2, .slice none 0 0, .int .i64 0, .int .i64 1, .int .i64 0, .slice (some ⟨kb, 0, none⟩) 7 7, .int .i64 0, .int .i64 7, .int .i64 0, .slice none 0 0] (wc.heap.size) (by simp); (simp [Value.oneCell']); exact HMX.out; exact HMB.out; exact HMZ.out _; intro vw5 w5 hown hg _; have hP := HO.out.push [⟨0, 4, j2, none, [], 0⟩, ⟨0, 1, 0, some ⟨kb, 0, none⟩, kList, 7⟩, ⟨0, 7, 0, none, [], 0⟩] (Below.refl _ _) (List.forall_mem_cons.2 ⟨kat_none _ _ _ HQ1.out, (List.forall_mem_cons.2 ⟨kat_blk _ _ _ (wf_small (by omega) (by omega)) HO.out.kk kCur_list (by decide), (List.forall_mem_cons.2 ⟨kat_none _ _ _ (wf_small (by omega) (by omega)), (fun _ h => by cases h)⟩)⟩)⟩) hown hg; have HP5 := Lib.hid hP; clear hown hg hP)
                    | (at_builtin; refine wpList_append_own _ rfl (.tmp 108) (.tmp 115) 23 rfl w0.heap.size 33 iO _ 4 48 Tryd.underlying23 hiO hzO0 hzO1 hzO2 rfl (by decide) _ (os ++ ([⟨0, 4, j2, none, [], 0⟩, ⟨0, 1, 0, some ⟨kb, 0, none⟩, kList, 7⟩, ⟨0, 7, 0, none, [], 0⟩] : List OpQ)).length ((os ++ ([⟨0, 4, j2, none, [], 0⟩, ⟨0, 1, 0, some ⟨kb, 0, none⟩, kList, 7⟩, ⟨0, 7, 0, none, [], 0⟩] : List OpQ)).flatMap OpQ.cs) rfl (HP5.out.row.alloc _) ⟨w5.heap.size, 0, none⟩ 1 1 [.int .i64 0, .int .i64 0, .int .i64 j2, .slice (some ⟨kb, 4, none⟩) 5 5] rfl rfl ?_ ?_ ?_ ?_ ?_ ?_; exact new_at w5 33 [.int .i64 0, .int .i64 0, .int .i64 j2, .slice (some ⟨kb, 4, none⟩) 5 5] (w5.heap.size) (by simp); (simp [Value.oneCell']); exact HMX2.out _ rfl; exact HMB2.out _ rfl; (have := HP5.out.bel.size; simp; omega); intro vw7 w7 hown hg _; have hP := HP5.out.push [⟨0, 0, j2, some ⟨kb, 4, none⟩, kList.drop 2, 5⟩] (Below.refl _ _) (List.forall_mem_cons.2 ⟨kat_sub _ _ _ HQ1.out HP5.out.kk (kCur.toList.take 4) [] rfl rfl (by decide), (fun _ h => by cases h)⟩) hown hg; have HP15 := Lib.hid hP; clear hown hg hP))
                  go_roundw
                  case rel =>
                    (repeat apply Exists.intro)
                    exact ⟨⟨k + 1, _, _, by omega, rfl, rfl, HP15.out, by have := HL9.out; simp; omega⟩, rfl⟩
                  case measure => simp [intOf]; omega
              · have h6i : ((k : Int) % 6 == 0) = false := by simp; omega
                go_wp2_with ((at_builtin; refine wpList_append_own _ rfl (.tmp 97) (.tmp 103) 23 rfl w0.heap.size 33 iO _ 4 48 Tryd.underlying23 hiO hzO0 hzO1 hzO2 rfl (by decide) _ os.length (os.flatMap OpQ.cs) rfl (HO.out.row.alloc _) ⟨wc.heap.size, 0, none⟩ 3 3 [.int .i64 0, .int .i64 4, .int .i64 j2, .slice none 0 0, .int .i64 0, .int .i64 1, .int .i64 0, .slice (some ⟨kb, 0, none⟩) 7 7, .int .i64 0, .int .i64 7, .int .i64 0, .slice none 0 0] rfl rfl ?_ ?_ ?_ ?_ ?_ ?_; exact new_at wc 33 [.int .i64 0, .int .i64 4, .int .i64 j2, .slice none 0 0, .int .i64 0, .int .i64 1, .int .i64 0, .slice (some ⟨kb, 0, none⟩) 7 7, .int .i64 0, .int .i64 7, .int .i64 0, .slice none 0 0] (wc.heap.size) (by simp); (simp [Value.oneCell']); exact HMX.out; exact HMB.out; exact HMZ.out _; intro vw5 w5 hown hg _; have hP := HO.out.push [⟨0, 4, j2, none, [], 0⟩, ⟨0, 1, 0, some ⟨kb, 0, none⟩, kList, 7⟩, ⟨0, 7, 0, none, [], 0⟩] (Below.refl _ _) (List.forall_mem_cons.2 ⟨kat_none _ _ _ HQ1.out, (List.forall_mem_cons.2 ⟨kat_blk _ _ _ (wf_small (by omega) (by omega)) HO.out.kk kCur_list (by decide), (List.forall_mem_cons.2 ⟨kat_none _ _ _ (wf_small (by omega) (by omega)), (fun _ h => by cases h)⟩)⟩)⟩) hown hg; have HP := Lib.hid hP; clear hown hg hP))
                go_roundw
                case rel =>
                  (repeat apply Exists.intro)
                  exact ⟨⟨k + 1, _, _, by omega, rfl, rfl, HP.out, by have := HL9.out; simp; omega⟩, rfl⟩
                case measure => simp [intOf]; omega
            · have h3i : ((k : Int) % 3 == 0) = false := by simp; omega
              have h6i : ((k : Int) % 6 == 0) = false := by simp; omega
              go_wp2_with (fail)
              go_roundw
              case rel => exact ⟨k + 1, _, _, by omega, rfl, by go_num, HO.out, by omega⟩
              case measure => simp [intOf]; omega
        · obtain rfl : k = 60 := by omega
          obtain ⟨LA, lc, rfl⟩ := own_slice HO.out.row
          have HS := Lib.hid (HO.out.scp (by omega))
          have HB0 := Lib.hid HO.out.bel
          obtain ⟨wl, rfl⟩ : ∃ wl : World, wl = wr := ⟨_, rfl⟩
          have HO3 := Lib.hid (show Ops wl wl kb (.slice none 0 0) [] from ⟨HO.out.kk, World.ownsRow_nil _ _ _ _, fun x hx => (by cases hx), Below.refl _ _⟩)
          obtain ⟨ol, hol3⟩ : ∃ ol, os = ol := ⟨_, rfl⟩
          subst hol3
          clear HO hol
          go_wp2_with (fail)
          go_loopw [6, 7] (fun s6 i wr => ∃ (k : Nat) (os : List OpQ) (v : Value), k ≤ 8 ∧ s6 = v ∧ i = .int .i64 k ∧ Ops wl wr kb v os ∧ os.length ≤ 16 * k) (fun _ i _ => 8 - (intOf i).toNat)
          case atStart => exact ⟨0, [], _, by omega, rfl, rfl, HO3.out, Nat.le_refl _⟩
          case round =>
            clear HO3
            rename List OpQ => osl
            obtain ⟨k, os, v, hk, rfl, rfl, hO, hol⟩ := hrel
            have HO := Lib.hid hO
            clear hO
            by_cases hlt : k < 8
            · have hkl : (k : Int) < 8 := by omega
              have HWF := Lib.hid (show wfI k from wf_small (by omega) (by omega))
              have HMX := Lib.hid (show os.length + 2 ≤ maxLen by unfold maxLen; omega)
              have HMB := Lib.hid (show (os.length + 2) * 48 ≤ 140737488355328 by omega)
              have HK8 := Lib.hid (show k < 8 ∧ os.length ≤ 16 * k from ⟨hlt, hol⟩)
              obtain ⟨j1, hj1⟩ : ∃ j, k % 7 = j := ⟨_, rfl⟩
              obtain ⟨m2, hm2⟩ : ∃ m, k + 2 = m := ⟨_, rfl⟩
              obtain ⟨j3, hj3⟩ : ∃ j, m2 % 7 = j := ⟨_, rfl⟩
              obtain ⟨m4, hm4⟩ : ∃ m, k + 3 = m := ⟨_, rfl⟩
              obtain ⟨j5, hj5⟩ : ∃ j, m4 % 7 = j := ⟨_, rfl⟩
              obtain ⟨m6, hm6⟩ : ∃ m, k + 5 = m := ⟨_, rfl⟩
              obtain ⟨j7, hj7⟩ : ∃ j, m6 % 7 = j := ⟨_, rfl⟩
              obtain ⟨m8, hm8⟩ : ∃ m, k + 6 = m := ⟨_, rfl⟩
              obtain ⟨j9, hj9⟩ : ∃ j, m8 % 7 = j := ⟨_, rfl⟩
              have nj1 : (j1 : Int) < 7 := by omega
              have zj1 : j1 ≤ 1000000 := by omega
              have zm2 : m2 ≤ 1000000 := by omega
              have nj3 : (j3 : Int) < 7 := by omega
              have zj3 : j3 ≤ 1000000 := by omega
              have zm4 : m4 ≤ 1000000 := by omega
              have nj5 : (j5 : Int) < 7 := by omega
              have zj5 : j5 ≤ 1000000 := by omega
              have zm6 : m6 ≤ 1000000 := by omega
              have nj7 : (j7 : Int) < 7 := by omega
              have zj7 : j7 ≤ 1000000 := by omega
              have zm8 : m8 ≤ 1000000 := by omega
              have nj9 : (j9 : Int) < 7 := by omega
              have zj9 : j9 ≤ 1000000 := by omega
              have lj1 : j1 < 7 := by omega
              have ij1 : (j1 : Int) < 7 := by omega
              have lj3 : j3 < 7 := by omega
              have ij3 : (j3 : Int) < 7 := by omega
              have lj5 : j5 < 7 := by omega
              have ij5 : (j5 : Int) < 7 := by omega
              have lj7 : j7 < 7 := by omega
              have ij7 : (j7 : Int) < 7 := by omega
              have lj9 : j9 < 7 := by omega
              have ij9 : (j9 : Int) < 7 := by omega
              have gj1 : (k : Int).tmod 7 = (j1 : Int) := by rw [← hj1]; exact tm64 k 7
              have wj1 : IntKind.i64.wrap (j1 : Int) = j1 := wr64 _ zj1
              have vm2 : IntKind.i64.wrap ((k : Int) + 2) = m2 := by rw [← wr64 m2 zm2, ← hm2]; rfl
              have gj3 : (m2 : Int).tmod 7 = (j3 : Int) := by rw [← hj3]; exact tm64 m2 7
              have wj3 : IntKind.i64.wrap (j3 : Int) = j3 := wr64 _ zj3
              have vm4 : IntKind.i64.wrap ((k : Int) + 3) = m4 := by rw [← wr64 m4 zm4, ← hm4]; rfl
              have gj5 : (m4 : Int).tmod 7 = (j5 : Int) := by rw [← hj5]; exact tm64 m4 7
              have wj5 : IntKind.i64.wrap (j5 : Int) = j5 := wr64 _ zj5
              have vm6 : IntKind.i64.wrap ((k : Int) + 5) = m6 := by rw [← wr64 m6 zm6, ← hm6]; rfl
              have gj7 : (m6 : Int).tmod 7 = (j7 : Int) := by rw [← hj7]; exact tm64 m6 7
              have wj7 : IntKind.i64.wrap (j7 : Int) = j7 := wr64 _ zj7
              have vm8 : IntKind.i64.wrap ((k : Int) + 6) = m8 := by rw [← wr64 m8 zm8, ← hm8]; rfl
              have gj9 : (m8 : Int).tmod 7 = (j9 : Int) := by rw [← hj9]; exact tm64 m8 7
              have wj9 : IntKind.i64.wrap (j9 : Int) = j9 := wr64 _ zj9
              obtain ⟨aj1, bj1, ej1⟩ := kCur_at j1 lj1
              obtain ⟨cj1, dj1⟩ := HO.out.keyc ej1
              have Ej1 := Lib.hid ej1
              clear ej1
              obtain ⟨aj3, bj3, ej3⟩ := kCur_at j3 lj3
              obtain ⟨cj3, dj3⟩ := HO.out.keyc ej3
              have Ej3 := Lib.hid ej3
              clear ej3
              obtain ⟨aj5, bj5, ej5⟩ := kCur_at j5 lj5
              obtain ⟨cj5, dj5⟩ := HO.out.keyc ej5
              have Ej5 := Lib.hid ej5
              clear ej5
              obtain ⟨aj7, bj7, ej7⟩ := kCur_at j7 lj7
              obtain ⟨cj7, dj7⟩ := HO.out.keyc ej7
              have Ej7 := Lib.hid ej7
              clear ej7
              obtain ⟨aj9, bj9, ej9⟩ := kCur_at j9 lj9
              obtain ⟨cj9, dj9⟩ := HO.out.keyc ej9
              have Ej9 := Lib.hid ej9
              clear ej9
              clear zj1 hj1 zm2 hm2 zj3 hj3 zm4 hm4 zj5 hj5 zm6 hm6 zj7 hj7 zm8 hm8 zj9 hj9
              go_wp2_with (fail)
              go_region_held3 (fun w' => w'.cell? ⟨kb, j1 * 2, none⟩ = some (.int .i64 aj1) ∧ w'.cell? ⟨kb, j1 * 2 + 1, none⟩ = some (.int .i64 bj1) ∧ w'.cell? ⟨kb, j3 * 2, none⟩ = some (.int .i64 aj3) ∧ w'.cell? ⟨kb, j3 * 2 + 1, none⟩ = some (.int .i64 bj3) ∧ w'.cell? ⟨kb, j5 * 2, none⟩ = some (.int .i64 aj5) ∧ w'.cell? ⟨kb, j5 * 2 + 1, none⟩ = some (.int .i64 bj5) ∧ w'.cell? ⟨kb, j7 * 2, none⟩ = some (.int .i64 aj7) ∧ w'.cell? ⟨kb, j7 * 2 + 1, none⟩ = some (.int .i64 bj7) ∧ w'.cell? ⟨kb, j9 * 2, none⟩ = some (.int .i64 aj9) ∧ w'.cell? ⟨kb, j9 * 2 + 1, none⟩ = some (.int .i64 bj9))
                (first | exact ⟨(HO.out.oneA Ej1.out _).1, (HO.out.oneA Ej1.out _).2, (HO.out.oneA Ej3.out _).1, (HO.out.oneA Ej3.out _).2, (HO.out.oneA Ej5.out _).1, (HO.out.oneA Ej5.out _).2, (HO.out.oneA Ej7.out _).1, (HO.out.oneA Ej7.out _).2, (HO.out.oneA Ej9.out _).1, (HO.out.oneA Ej9.out _).2⟩ | go_keep)
                (first | (fail))
              obtain ⟨g5, hg5⟩ : ∃ g, wr.heap.size = g := ⟨_, rfl⟩
              obtain ⟨WX, hWX⟩ : ∃ X, (wr.alloc (.cells #[.int .i64 aj1, .int .i64 bj1, .int .i64 aj3, .int .i64 bj3, .int .i64 aj5, .int .i64 bj5, .int .i64 aj7, .int .i64 bj7, .int .i64 aj9, .int .i64 bj9] 48)).drew = X := ⟨_, rfl⟩
              have hbx : Below wr.heap.size wr WX := hWX ▸ ((Below.refl _ _).alloc (Nat.le_refl _) _).drew
              have hbk : Blk WX g5 48 #[.int .i64 aj1, .int .i64 bj1, .int .i64 aj3, .int .i64 bj3, .int .i64 aj5, .int .i64 bj5, .int .i64 aj7, .int .i64 bj7, .int .i64 aj9, .int .i64 bj9] := by rw [← hWX, ← hg5]; exact Blk.new wr _ _
              have HOX := Lib.hid (HO.out.below hbx)
              have HBK := Lib.hid hbk
              rw [hWX, hg5]
              clear hbx hbk hWX hg5 HO hol
              clear nj1 gj1 wj1 nj3 gj3 wj3 nj5 gj5 wj5 nj7 gj7 wj7 nj9 gj9 wj9 vm2 vm4 vm6 vm8 cj1 dj1 lj1 ij1 cj3 dj3 lj3 ij3 cj5 dj5 lj5 ij5 cj7 dj7 lj7 ij7 cj9 dj9 lj9 ij9
              go_wp2_with ((at_builtin; refine wpList_append_own _ rfl (.tmp 151) (.tmp 157) 23 rfl wl.heap.size 33 iO _ 4 48 Tryd.underlying23 hiO hzO0 hzO1 hzO2 rfl (by decide) _ os.length (os.flatMap OpQ.cs) rfl (HOX.out.row.alloc _) ⟨WX.heap.size, 0, none⟩ 2 2 [.int .i64 0, .int .i64 0, .int .i64 k, .slice (some ⟨g5, 0, none⟩) 5 5, .int .i64 0, .int .i64 4, .int .i64 k, .slice none 0 0] rfl rfl ?_ ?_ ?_ ?_ ?_ ?_; exact new_at WX 33 [.int .i64 0, .int .i64 0, .int .i64 k, .slice (some ⟨g5, 0, none⟩) 5 5, .int .i64 0, .int .i64 4, .int .i64 k, .slice none 0 0] (WX.heap.size) (by simp); (simp [Value.oneCell']); exact HMX.out; exact HMB.out; (have := HOX.out.bel.size; simp; omega); intro vw2 w2 hown hg _; have hP := HOX.out.push [⟨0, 0, k, some ⟨g5, 0, none⟩, [⟨aj1, bj1⟩, ⟨aj3, bj3⟩, ⟨aj5, bj5⟩, ⟨aj7, bj7⟩, ⟨aj9, bj9⟩], 5⟩, ⟨0, 4, k, none, [], 0⟩] (Below.refl _ _) (List.forall_mem_cons.2 ⟨kat_blk _ _ _ HWF.out HBK.out rfl (by simp), (List.forall_mem_cons.2 ⟨kat_none _ _ _ HWF.out, (fun _ h => by cases h)⟩)⟩) hown hg; have HP := Lib.hid hP; clear hown hg hP))
              obtain ⟨wo, rfl⟩ : ∃ wo : World, wo = w2 := ⟨_, rfl⟩
              have HPL := Lib.hid (show (os ++ ([⟨0, 0, k, some ⟨g5, 0, none⟩, [⟨aj1, bj1⟩, ⟨aj3, bj3⟩, ⟨aj5, bj5⟩, ⟨aj7, bj7⟩, ⟨aj9, bj9⟩], 5⟩, ⟨0, 4, k, none, [], 0⟩] : List OpQ)).length ≤ 16 * k + 2 from by have := HK8.out.2; simp; omega)
              go_loopw [6, 9] (fun s6 i wr => ∃ (j : Nat) (os : List OpQ) (v : Value), j ≤ 7 ∧ s6 = v ∧ i = .int .i64 j ∧ Ops wl wr kb v os ∧ os.length ≤ 16 * k + 2 + 2 * j) (fun _ i _ => 7 - (intOf i).toNat)
              case atStart => exact ⟨0, _, _, by omega, rfl, rfl, HP.out, by have := HPL.out; omega⟩
              case round =>
                clear HP HPL HMX HMB HOX HBK
                obtain ⟨j, os, v, hj, rfl, rfl, hO, hol⟩ := hrel
                have HO := Lib.hid hO
                clear hO
                by_cases hj7 : j < 7
                · have hjl : (j : Int) < 7 := by omega
                  obtain ⟨ka, kc, ek⟩ := kCur_at j hj7
                  have EK := Lib.hid ek
                  have HMX := Lib.hid (show os.length + 2 ≤ maxLen by unfold maxLen; have := HK8.out; omega)
                  have HMB := Lib.hid (show (os.length + 2) * 48 ≤ 140737488355328 by have := HK8.out; omega)
                  have HLL := Lib.hid hol
                  clear ek hol
                  go_wp2_with ((at_builtin; refine wpList_append_own _ rfl (.tmp 163) (.tmp 171) 23 rfl wl.heap.size 33 iO _ 4 48 Tryd.underlying23 hiO hzO0 hzO1 hzO2 rfl (by decide) _ os.length (os.flatMap OpQ.cs) rfl (HO.out.row.alloc _) ⟨wr.heap.size, 0, none⟩ 2 2 [.int .i64 0, .int .i64 1, .int .i64 0, .slice (some ⟨kb, j * 2, none⟩) 1 (7 - j), .int .i64 0, .int .i64 2, .int .i64 0, .slice none 0 0] rfl rfl ?_ ?_ ?_ ?_ ?_ ?_; exact new_at wr 33 [.int .i64 0, .int .i64 1, .int .i64 0, .slice (some ⟨kb, j * 2, none⟩) 1 (7 - j), .int .i64 0, .int .i64 2, .int .i64 0, .slice none 0 0] (wr.heap.size) (by simp); (simp [Value.oneCell']); exact HMX.out; exact HMB.out; (have := HO.out.bel.size; simp; omega); intro vw2 w2 hown hg _; have hP := HO.out.push [⟨0, 1, 0, some ⟨kb, j * 2, none⟩, [⟨ka, kc⟩], 7 - j⟩, ⟨0, 2, 0, none, [], 0⟩] (Below.refl _ _) (List.forall_mem_cons.2 ⟨kat_one _ _ _ (wf_small (by omega) (by omega)) HO.out.kk EK.out, (List.forall_mem_cons.2 ⟨kat_none _ _ _ (wf_small (by omega) (by omega)), (fun _ h => by cases h)⟩)⟩) hown hg; have HP := Lib.hid hP; clear hown hg hP))
                  go_roundw
                  case rel => exact ⟨j + 1, _, _, by omega, rfl, by go_num, HP.out, by have := HLL.out; simp; omega⟩
                  case measure => simp [intOf]; omega
                · obtain rfl : j = 7 := by omega
                  go_wp2_with (fail)
                  go_roundw
                  case rel =>
                    (repeat apply Exists.intro)
                    exact ⟨⟨k + 1, _, _, by have := HK8.out; omega, rfl, rfl, HO.out, by omega⟩, rfl⟩
                  case measure => simp [intOf]; have := HK8.out; omega
            · obtain rfl : k = 8 := by omega
              obtain ⟨GA, gc, rfl⟩ := own_slice HO.out.row
              have HSG := Lib.hid (HO.out.scp (by omega))
              have HS2 := Lib.hid (HS.out.below HO.out.bel)
              have HG2 := Lib.hid (HHG.out.below (HB0.out.trans (HO.out.bel.mono HB0.out.size)))
              have HB2 := Lib.hid (below_after HB0.out HO.out.bel)
              clear HO hol
              go_wp2_with (fail)
              refine (HS2.out.calls 20 0 lc HG2.out).mono ?_
              rintro e w3 ⟨rfl, hb3⟩
              have HS3 := Lib.hid (HS2.out.below hb3)
              have HSG3 := Lib.hid (HSG.out.below hb3)
              have HG3 := Lib.hid (HG2.out.below hb3)
              have HB3 := Lib.hid (below_after HB2.out hb3)
              clear hb3
              go_wp2_with (fail)
              refine (HS3.out.calls 9 0 lc HG3.out).mono ?_
              rintro e w4 ⟨rfl, hb4⟩
              have HSG4 := Lib.hid (HSG3.out.below hb4)
              have HG4 := Lib.hid (HG3.out.below hb4)
              have HB4 := Lib.hid (below_after HB3.out hb4)
              clear hb4
              go_wp2_with (fail)
              refine (HSG4.out.calls 3 0 gc HG4.out).mono ?_
              rintro e w5 ⟨rfl, hb5⟩
              have HB5 := Lib.hid (below_after HB4.out hb5)
              clear hb5
              go_wp2
              go_ret
              exact ⟨rfl, HB5.out⟩
end Go.Proofs.YtmcknfpohnobdaaDoor
