/- StoreKnown: few, edged (printed by gen_ke11.py). -/
import Derived.Test.YtflkddllofeiaaaGreatDoorKm11
import Derived.Test.YtflkddllofeiaaaGreatDoorTail
import Derived.Deep.RegionHeld3
import Derived.Great.BuildSlice
namespace Go.Proofs.YtflkddllofeiaaaGreatDoor
open Go.RowKit Go.MapKept Go.ChangeMaps Go.Maps
set_option linter.unusedVariables false
set_option linter.unusedSimpArgs false

def fCur : Array Value := #[.int .i64 0, .int .i64 0, .int .i64 0, .int .i64 1, .int .i64 1, .int .i64 0, .int .i64 1, .int .i64 2, .int .i64 (-1), .int .i64 7, .int .i64 (-1), .int .i64 1099511627776, .int .i64 9223372036854775807, .int .i64 (-9223372036854775808), .int .i64 (-9223372036854775808), .int .i64 9223372036854775807, .int .i64 0, .int .i64 256, .int .i64 256, .int .i64 0]
def sCur : Array Value := #[.int .i64 (-9223372036854775808), .int .i64 (-1), .int .i64 0, .int .i64 1, .int .i64 2, .int .i64 3, .int .i64 4, .int .i64 63, .int .i64 64, .int .i64 65, .int .i64 9223372036854775807]
def nCur : Array Value := #[.int .i64 (-9223372036854775808), .int .i64 (-1), .int .i64 0, .int .i64 1, .int .i64 2, .int .i64 3, .int .i64 9223372036854775806, .int .i64 9223372036854775807]
theorem fCur_at (j : Nat) (hj : j < 10) : ∃ a b : Int, fCur[j * 2]? = some (.int .i64 a) ∧ fCur[j * 2 + 1]? = some (.int .i64 b) := by
  match j, hj with
  | 0, _ => exact ⟨_, _, rfl, rfl⟩
  | 1, _ => exact ⟨_, _, rfl, rfl⟩
  | 2, _ => exact ⟨_, _, rfl, rfl⟩
  | 3, _ => exact ⟨_, _, rfl, rfl⟩
  | 4, _ => exact ⟨_, _, rfl, rfl⟩
  | 5, _ => exact ⟨_, _, rfl, rfl⟩
  | 6, _ => exact ⟨_, _, rfl, rfl⟩
  | 7, _ => exact ⟨_, _, rfl, rfl⟩
  | 8, _ => exact ⟨_, _, rfl, rfl⟩
  | 9, _ => exact ⟨_, _, rfl, rfl⟩
theorem sCur_at (j : Nat) (hj : j < 11) : ∃ a : Int, sCur[j]? = some (.int .i64 a) := by
  match j, hj with
  | 0, _ => exact ⟨_, rfl⟩
  | 1, _ => exact ⟨_, rfl⟩
  | 2, _ => exact ⟨_, rfl⟩
  | 3, _ => exact ⟨_, rfl⟩
  | 4, _ => exact ⟨_, rfl⟩
  | 5, _ => exact ⟨_, rfl⟩
  | 6, _ => exact ⟨_, rfl⟩
  | 7, _ => exact ⟨_, rfl⟩
  | 8, _ => exact ⟨_, rfl⟩
  | 9, _ => exact ⟨_, rfl⟩
  | 10, _ => exact ⟨_, rfl⟩
theorem nCur_at (j : Nat) (hj : j < 8) : ∃ a : Int, nCur[j]? = some (.int .i64 a) ∧ wfI a := by
  match j, hj with
  | 0, _ => exact ⟨_, rfl, wfI_of (by decide) (by decide)⟩
  | 1, _ => exact ⟨_, rfl, wfI_of (by decide) (by decide)⟩
  | 2, _ => exact ⟨_, rfl, wfI_of (by decide) (by decide)⟩
  | 3, _ => exact ⟨_, rfl, wfI_of (by decide) (by decide)⟩
  | 4, _ => exact ⟨_, rfl, wfI_of (by decide) (by decide)⟩
  | 5, _ => exact ⟨_, rfl, wfI_of (by decide) (by decide)⟩
  | 6, _ => exact ⟨_, rfl, wfI_of (by decide) (by decide)⟩
  | 7, _ => exact ⟨_, rfl, wfI_of (by decide) (by decide)⟩
theorem calls_len (X : List CallV) : (X.flatMap CallV.cs).length = X.length * 6 := by
  induction X with
  | nil => rfl
  | cons x l ih => rw [List.flatMap_cons, List.length_append, ih, CallV.len, List.length_cons]; omega
theorem reads_calls (w : World) (X : List CallV) (cs : Array Value) (h : cs.toList = X.flatMap CallV.cs) (n : Nat) (hn : X.length = n) : Reads (w.alloc (.cells cs 35)) (w.alloc (.cells cs 35)).heap.size 6 (some ⟨w.heap.size, 0, none⟩) X.length (X.flatMap CallV.cs) := by
  obtain rfl : cs = (X.flatMap CallV.cs).toArray := by rw [← h]
  exact ⟨calls_len X, fun _ => ⟨_, rfl, by simp, new_cells w _ _⟩⟩
theorem wpList_any {P : Program} {ops0 : Array Oper} {Q : Exit → Act → World → Prop} {l : List Oper} {a : Act} {w : World} (h : ∀ ops, wpList P ops Q l a w) : wpList P ops0 Q l a w := h ops0
def edO (ka kc x y z : Int) : List CallV := [⟨0, 0, ⟨ka, kc⟩, x, ⟨#[97]⟩⟩, ⟨0, 0, ⟨ka, kc⟩, y, ⟨#[98]⟩⟩, ⟨0, 0, ⟨ka, kc⟩, z, ⟨#[99]⟩⟩, ⟨0, 4, ⟨0, 0⟩, y, ⟨#[]⟩⟩, ⟨0, 6, ⟨0, 0⟩, z, ⟨#[]⟩⟩, ⟨0, 7, ⟨ka, kc⟩, z, ⟨#[]⟩⟩, ⟨0, 1, ⟨ka, kc⟩, x, ⟨#[]⟩⟩, ⟨0, 1, ⟨ka, kc⟩, y, ⟨#[]⟩⟩, ⟨0, 5, ⟨0, 0⟩, x, ⟨#[]⟩⟩, ⟨0, 5, ⟨0, 0⟩, 1, ⟨#[]⟩⟩, ⟨0, 5, ⟨0, 0⟩, 1, ⟨#[]⟩⟩, ⟨0, 7, ⟨ka, kc⟩, y, ⟨#[]⟩⟩, ⟨0, 8, ⟨0, 0⟩, 0, ⟨#[]⟩⟩, ⟨0, 1, ⟨ka, kc⟩, z, ⟨#[]⟩⟩, ⟨0, 2, ⟨ka, kc⟩, 0, ⟨#[]⟩⟩, ⟨0, 7, ⟨0, 0⟩, z, ⟨#[]⟩⟩]
def edC (ka kc x y z : Int) : Array Value := ((edO ka kc x y z).flatMap CallV.cs).toArray
theorem edO_len (ka kc x y z : Int) : (edO ka kc x y z).length = 16 := rfl
theorem edC_list (ka kc x y z : Int) : (edC ka kc x y z).toList = (edO ka kc x y z).flatMap CallV.cs := rfl
theorem edO_wf (ka kc x y z : Int) (hx : wfI x) (hy : wfI y) (hz : wfI z) : ∀ q ∈ edO ka kc x y z, wfI q.n := by
  unfold edO
  exact (List.forall_mem_cons.2 ⟨hx, (List.forall_mem_cons.2 ⟨hy, (List.forall_mem_cons.2 ⟨hz, (List.forall_mem_cons.2 ⟨hy, (List.forall_mem_cons.2 ⟨hz, (List.forall_mem_cons.2 ⟨hz, (List.forall_mem_cons.2 ⟨hx, (List.forall_mem_cons.2 ⟨hy, (List.forall_mem_cons.2 ⟨hx, (List.forall_mem_cons.2 ⟨(wfI_of (by simp only []; omega) (by simp only []; omega)), (List.forall_mem_cons.2 ⟨(wfI_of (by simp only []; omega) (by simp only []; omega)), (List.forall_mem_cons.2 ⟨hy, (List.forall_mem_cons.2 ⟨(wfI_of (by simp only []; omega) (by simp only []; omega)), (List.forall_mem_cons.2 ⟨hz, (List.forall_mem_cons.2 ⟨(wfI_of (by simp only []; omega) (by simp only []; omega)), (List.forall_mem_cons.2 ⟨hz, (fun _ h => by cases h)⟩)⟩)⟩)⟩)⟩)⟩)⟩)⟩)⟩)⟩)⟩)⟩)⟩)⟩)⟩)⟩)
set_option maxRecDepth 100000 in
theorem few_calls (w : World) : Calls Tryz.prog 52 #[] w fun e w' => e = .returned (.slice (some ⟨w.heap.size, 0, none⟩) 10 10) ∧ w' = w.alloc (.cells fCur 33) := by
  go_enter Tryz.func52, Tryz.ntmps52
  go_wp2
  go_ret
  exact ⟨rfl, rfl⟩
set_option maxRecDepth 100000 in
set_option maxHeartbeats 8000000 in
theorem edged_calls (w0 : World) (hG : HG w0) : Calls Tryz.prog 20 #[] w0 fun e w' => e = .returned (.bool true) ∧ Below w0.heap.size w0 w' := by
  obtain ⟨iO, hiO, hz0, hz1, hz2⟩ := info_parts infoCall
  have HGG := Lib.hid hG
  clear hG
  go_enter Tryz.func20, Tryz.ntmps20
  go_wp2_with (fail)
  refine (few_calls w0).mono ?_
  rintro e w1 ⟨rfl, hw1⟩
  have hK : Blk w1 w0.heap.size 33 fCur := hw1 ▸ Blk.new w0 _ _
  have hb1 : Below w0.heap.size w0 w1 := hw1 ▸ (Below.refl _ _).alloc (Nat.le_refl _) _
  obtain ⟨kb, hkb⟩ : ∃ g, w0.heap.size = g := ⟨_, rfl⟩
  have HKB := Lib.hid hkb
  obtain ⟨sb, hsb⟩ : ∃ g, w1.heap.size = g := ⟨_, rfl⟩
  obtain ⟨W2, hW2⟩ : ∃ X, w1.alloc (.cells sCur 3) = X := ⟨_, rfl⟩
  have hS : Blk W2 sb 3 sCur := hsb ▸ hW2 ▸ Blk.new w1 _ _
  have hb2 : Below w1.heap.size w1 W2 := hW2 ▸ (Below.refl _ _).alloc (Nat.le_refl _) _
  have HS := Lib.hid (⟨below_after hb1 hb2, hkb ▸ hK.below hb2 hK.lt, hS⟩ : Below w0.heap.size w0 W2 ∧ Blk W2 kb 33 fCur ∧ Blk W2 sb 3 sCur)
  have HW2 := Lib.hid hW2
  have HSB := Lib.hid hsb
  clear hw1 hK hb1 hkb hW2 hsb hS hb2
  rw [HKB.out]
  go_wp2_with (fail)
  have e2 : w1.alloc (.cells #[.int .i64 (-9223372036854775808), .int .i64 (-1), .int .i64 0, .int .i64 1, .int .i64 2, .int .i64 3, .int .i64 4, .int .i64 63, .int .i64 64, .int .i64 65, .int .i64 9223372036854775807] 3) = W2 := HW2.out
  rw [e2, HSB.out]
  clear e2
  go_loopw [3] (fun i wr => ∃ k : Nat, k ≤ 10 ∧ i = .int .i64 k ∧ Below w0.heap.size w0 wr ∧ Blk wr kb 33 fCur ∧ Blk wr sb 3 sCur) (fun i _ => 10 - (intOf i).toNat)
  case atStart => exact ⟨0, by omega, rfl, HS.out⟩
  case round =>
    clear HS
    obtain ⟨k, hk, rfl, hbel, hK, hS⟩ := hrel
    by_cases hlt : k < 10
    · have hkl : (k : Int) < 10 := by omega
      go_wp2_with (fail)
      go_loopw [4] (fun i wr => ∃ q : Nat, q ≤ 11 ∧ i = .int .i64 q ∧ Below w0.heap.size w0 wr ∧ Blk wr kb 33 fCur ∧ Blk wr sb 3 sCur) (fun i _ => 11 - (intOf i).toNat)
      case atStart => exact ⟨0, by omega, rfl, hbel, hK, hS⟩
      case round =>
        clear hbel hK hS
        obtain ⟨q, hq, rfl, hbel, hK, hS⟩ := hrel
        by_cases hlt2 : q < 11
        · have hql : (q : Int) < 11 := by omega
          obtain ⟨ka, kc, hf⟩ := fCur_at k hlt
          obtain ⟨sa, hs1⟩ := sCur_at q hlt2
          obtain ⟨m, hm⟩ : ∃ m, 10 - q = m := ⟨_, rfl⟩
          have hml : m < 11 := by omega
          obtain ⟨sc, hs2⟩ := sCur_at m hml
          have hmi : (m : Int) < 11 := by omega
          have hmw : IntKind.i64.wrap (10 - (q : Int)) = (m : Int) := by rw [IntKind.wrap_i64]; omega
          have h10a : IntKind.i64.wrap ((11 : Int) - 1) = 10 := rfl
          have h10b : IntKind.i64.wrap (10 : Int) = 10 := rfl
          have h10c : IntKind.i64.wrap (((11 : Nat) : Int) - 1) = 10 := rfl
          have hmw2 : IntKind.i64.wrap (IntKind.i64.wrap ((11 : Int) - 1) - (q : Int)) = (m : Int) := by rw [h10a]; exact hmw
          have HF := Lib.hid hf
          have HS1 := Lib.hid hs1
          have HS2 := Lib.hid hs2
          have HBEL := Lib.hid hbel
          have HK := Lib.hid hK
          have HS := Lib.hid hS
          clear hf hs1 hs2 hm hml
          have c0wr : wr.cell? ⟨kb, k * 2, none⟩ = some (.int .i64 ka) := (hK.cell _).trans HF.out.1; have c1wr : wr.cell? ⟨kb, k * 2 + 1, none⟩ = some (.int .i64 kc) := (hK.cell _).trans HF.out.2; have c2wr : wr.cell? ⟨sb, q, none⟩ = some (.int .i64 sa) := (hS.cell _).trans HS1.out; have c3wr : wr.cell? ⟨sb, m, none⟩ = some (.int .i64 sc) := (hS.cell _).trans HS2.out
          clear hbel hK hS
          go_upto_region 9 with fail
          go_region_held3 (fun w' => w'.cell? ⟨kb, k * 2, none⟩ = some (.int .i64 ka) ∧ w'.cell? ⟨kb, k * 2 + 1, none⟩ = some (.int .i64 kc) ∧ w'.cell? ⟨sb, q, none⟩ = some (.int .i64 sa) ∧ w'.cell? ⟨sb, m, none⟩ = some (.int .i64 sc))
            (first | go_keep | fail)
            (first
              | (go_at_call 53; refine (lawHash_calls ⟨ka, kc⟩ sa wr.drew (HGG.out.below (HBEL.out.drew))).mono ?_; rintro e w2 ⟨rfl, hb2⟩
                 have hb : Below wr.heap.size wr w2 := (Below.refl _ _).drew.trans hb2
                 have hK2 := HK.out.below hb HK.out.lt
                 have hS2 := HS.out.below hb HS.out.lt
                 have lk : kb < w2.heap.size := hK2.lt
                 have ls : sb < w2.heap.size := hS2.lt
                 have c0w2 : w2.cell? ⟨kb, k * 2, none⟩ = some (.int .i64 ka) := (hK2.cell _).trans HF.out.1; have c1w2 : w2.cell? ⟨kb, k * 2 + 1, none⟩ = some (.int .i64 kc) := (hK2.cell _).trans HF.out.2; have c2w2 : w2.cell? ⟨sb, q, none⟩ = some (.int .i64 sa) := (hS2.cell _).trans HS1.out; have c3w2 : w2.cell? ⟨sb, m, none⟩ = some (.int .i64 sc) := (hS2.cell _).trans HS2.out
                 have d0 : (w2.alloc (.cells #[.int .i64 0, .int .i64 9, .int .i64 0, .int .i64 0, .int .i64 0, .string ⟨#[]⟩, .int .i64 1, .int .i64 9, .int .i64 0, .int .i64 0, .int .i64 0, .string ⟨#[]⟩, .int .i64 0, .int .i64 0, .int .i64 ka, .int .i64 kc, .int .i64 0, .string ⟨#[118]⟩, .int .i64 0, .int .i64 3, .int .i64 0, .int .i64 0, .int .i64 0, .string ⟨#[]⟩] 35)).cell? ⟨kb, k * 2, none⟩ = some (.int .i64 ka) := ((hK2.alloc _).cell _).trans HF.out.1; have d1 : (w2.alloc (.cells #[.int .i64 0, .int .i64 9, .int .i64 0, .int .i64 0, .int .i64 0, .string ⟨#[]⟩, .int .i64 1, .int .i64 9, .int .i64 0, .int .i64 0, .int .i64 0, .string ⟨#[]⟩, .int .i64 0, .int .i64 0, .int .i64 ka, .int .i64 kc, .int .i64 0, .string ⟨#[118]⟩, .int .i64 0, .int .i64 3, .int .i64 0, .int .i64 0, .int .i64 0, .string ⟨#[]⟩] 35)).cell? ⟨kb, k * 2 + 1, none⟩ = some (.int .i64 kc) := ((hK2.alloc _).cell _).trans HF.out.2; have d2 : (w2.alloc (.cells #[.int .i64 0, .int .i64 9, .int .i64 0, .int .i64 0, .int .i64 0, .string ⟨#[]⟩, .int .i64 1, .int .i64 9, .int .i64 0, .int .i64 0, .int .i64 0, .string ⟨#[]⟩, .int .i64 0, .int .i64 0, .int .i64 ka, .int .i64 kc, .int .i64 0, .string ⟨#[118]⟩, .int .i64 0, .int .i64 3, .int .i64 0, .int .i64 0, .int .i64 0, .string ⟨#[]⟩] 35)).cell? ⟨sb, q, none⟩ = some (.int .i64 sa) := ((hS2.alloc _).cell _).trans HS1.out; have d3 : (w2.alloc (.cells #[.int .i64 0, .int .i64 9, .int .i64 0, .int .i64 0, .int .i64 0, .string ⟨#[]⟩, .int .i64 1, .int .i64 9, .int .i64 0, .int .i64 0, .int .i64 0, .string ⟨#[]⟩, .int .i64 0, .int .i64 0, .int .i64 ka, .int .i64 kc, .int .i64 0, .string ⟨#[118]⟩, .int .i64 0, .int .i64 3, .int .i64 0, .int .i64 0, .int .i64 0, .string ⟨#[]⟩] 35)).cell? ⟨sb, m, none⟩ = some (.int .i64 sc) := ((hS2.alloc _).cell _).trans HS2.out
                 have HK2 := Lib.hid hK2
                 have HS22 := Lib.hid hS2
                 have HB2 := Lib.hid (below_after HBEL.out hb)
                 clear hb hb2 hK2 hS2 lk ls)
              | (go_at_call 3; refine (storeScript_calls sa sc [⟨0, 9, ⟨0, 0⟩, 0, ⟨#[]⟩⟩, ⟨1, 9, ⟨0, 0⟩, 0, ⟨#[]⟩⟩, ⟨0, 0, ⟨ka, kc⟩, 0, ⟨#[118]⟩⟩, ⟨0, 3, ⟨0, 0⟩, 0, ⟨#[]⟩⟩] (some ⟨w2.heap.size, 0, none⟩) 4 (w2.alloc (.cells #[.int .i64 0, .int .i64 9, .int .i64 0, .int .i64 0, .int .i64 0, .string ⟨#[]⟩, .int .i64 1, .int .i64 9, .int .i64 0, .int .i64 0, .int .i64 0, .string ⟨#[]⟩, .int .i64 0, .int .i64 0, .int .i64 ka, .int .i64 kc, .int .i64 0, .string ⟨#[118]⟩, .int .i64 0, .int .i64 3, .int .i64 0, .int .i64 0, .int .i64 0, .string ⟨#[]⟩] 35)) (reads_calls w2 [⟨0, 9, ⟨0, 0⟩, 0, ⟨#[]⟩⟩, ⟨1, 9, ⟨0, 0⟩, 0, ⟨#[]⟩⟩, ⟨0, 0, ⟨ka, kc⟩, 0, ⟨#[118]⟩⟩, ⟨0, 3, ⟨0, 0⟩, 0, ⟨#[]⟩⟩] #[.int .i64 0, .int .i64 9, .int .i64 0, .int .i64 0, .int .i64 0, .string ⟨#[]⟩, .int .i64 1, .int .i64 9, .int .i64 0, .int .i64 0, .int .i64 0, .string ⟨#[]⟩, .int .i64 0, .int .i64 0, .int .i64 ka, .int .i64 kc, .int .i64 0, .string ⟨#[118]⟩, .int .i64 0, .int .i64 3, .int .i64 0, .int .i64 0, .int .i64 0, .string ⟨#[]⟩] rfl 4 rfl) (List.forall_mem_cons.2 ⟨(wfI_of (by simp only []; omega) (by simp only []; omega)), (List.forall_mem_cons.2 ⟨(wfI_of (by simp only []; omega) (by simp only []; omega)), (List.forall_mem_cons.2 ⟨(wfI_of (by simp only []; omega) (by simp only []; omega)), (List.forall_mem_cons.2 ⟨(wfI_of (by simp only []; omega) (by simp only []; omega)), (fun _ h => by cases h)⟩)⟩)⟩)⟩) (by simp) (HGG.out.below (HB2.out.alloc HB2.out.size _))).mono ?_; rintro e w4 ⟨rfl, hb4⟩
                 have hbz := below_after ((Below.refl w2.heap.size w2).alloc (Nat.le_refl _) (.cells #[.int .i64 0, .int .i64 9, .int .i64 0, .int .i64 0, .int .i64 0, .string ⟨#[]⟩, .int .i64 1, .int .i64 9, .int .i64 0, .int .i64 0, .int .i64 0, .string ⟨#[]⟩, .int .i64 0, .int .i64 0, .int .i64 ka, .int .i64 kc, .int .i64 0, .string ⟨#[118]⟩, .int .i64 0, .int .i64 3, .int .i64 0, .int .i64 0, .int .i64 0, .string ⟨#[]⟩] 35)) hb4
                 have hK4 := HK2.out.below hbz HK2.out.lt
                 have hS4 := HS22.out.below hbz HS22.out.lt
                 have c0w4 : w4.cell? ⟨kb, k * 2, none⟩ = some (.int .i64 ka) := (hK4.cell _).trans HF.out.1; have c1w4 : w4.cell? ⟨kb, k * 2 + 1, none⟩ = some (.int .i64 kc) := (hK4.cell _).trans HF.out.2; have c2w4 : w4.cell? ⟨sb, q, none⟩ = some (.int .i64 sa) := (hS4.cell _).trans HS1.out; have c3w4 : w4.cell? ⟨sb, m, none⟩ = some (.int .i64 sc) := (hS4.cell _).trans HS2.out
                 have HZ := Lib.hid (⟨below_after HB2.out hbz, hK4, hS4⟩ : Below w0.heap.size w0 w4 ∧ Blk w4 kb 33 fCur ∧ Blk w4 sb 3 sCur)
                 clear hb4 hbz hK4 hS4))
          clear hmw hmw2 h10a h10b h10c
          go_wp2_with (fail)
          go_roundw
          case rel => exact ⟨q + 1, by omega, by go_num, HZ.out⟩
          case measure => simp [intOf]; omega
        · obtain rfl : q = 11 := by omega
          go_wp2_with (fail)
          go_roundw
          case rel => exact ⟨k + 1, by omega, by go_num, hbel, hK, hS⟩
          case measure => simp [intOf]; omega
    · obtain rfl : k = 10 := by omega
      obtain ⟨wo, rfl⟩ : ∃ wo : World, wo = wr := ⟨_, rfl⟩
      obtain ⟨nb, hnb⟩ : ∃ g, wo.heap.size = g := ⟨_, rfl⟩
      obtain ⟨W3, hW3⟩ : ∃ X, wo.alloc (.cells nCur 3) = X := ⟨_, rfl⟩
      have hN : Blk W3 nb 3 nCur := hnb ▸ hW3 ▸ Blk.new wo _ _
      have hb3 : Below wo.heap.size wo W3 := hW3 ▸ (Below.refl _ _).alloc (Nat.le_refl _) _
      have HS := Lib.hid (⟨below_after hbel hb3, hK.below hb3 hK.lt, hN⟩ : Below w0.heap.size w0 W3 ∧ Blk W3 kb 33 fCur ∧ Blk W3 nb 3 nCur)
      have HW3 := Lib.hid hW3
      have HNB := Lib.hid hnb
      clear hbel hK hS hnb hW3 hN hb3
      go_wp2_with (fail)
      have e3 : wo.alloc (.cells #[.int .i64 (-9223372036854775808), .int .i64 (-1), .int .i64 0, .int .i64 1, .int .i64 2, .int .i64 3, .int .i64 9223372036854775806, .int .i64 9223372036854775807] 3) = W3 := HW3.out
      rw [e3, HNB.out]
      clear e3
      go_loopw [6] (fun i wr => ∃ a : Nat, a ≤ 8 ∧ i = .int .i64 a ∧ Below w0.heap.size w0 wr ∧ Blk wr kb 33 fCur ∧ Blk wr nb 3 nCur) (fun i _ => 8 - (intOf i).toNat)
      case atStart => exact ⟨0, by omega, rfl, HS.out⟩
      case round =>
        clear HS
        obtain ⟨a, ha, rfl, hbel, hK, hN⟩ := hrel
        by_cases hla : a < 8
        · have hia : (a : Int) < 8 := by omega
          go_wp2_with (fail)
          go_loopw [7] (fun i wr => ∃ b : Nat, b ≤ 8 ∧ i = .int .i64 b ∧ Below w0.heap.size w0 wr ∧ Blk wr kb 33 fCur ∧ Blk wr nb 3 nCur) (fun i _ => 8 - (intOf i).toNat)
          case atStart => exact ⟨0, by omega, rfl, hbel, hK, hN⟩
          case round =>
            clear hbel hK hN
            obtain ⟨b, hb, rfl, hbel, hK, hN⟩ := hrel
            by_cases hlb : b < 8
            · have hib : (b : Int) < 8 := by omega
              go_wp2_with (fail)
              go_loopw [8] (fun i wr => ∃ c : Nat, c ≤ 8 ∧ i = .int .i64 c ∧ Below w0.heap.size w0 wr ∧ Blk wr kb 33 fCur ∧ Blk wr nb 3 nCur) (fun i _ => 8 - (intOf i).toNat)
              case atStart => exact ⟨0, by omega, rfl, hbel, hK, hN⟩
              case round =>
                clear hbel hK hN
                obtain ⟨c, hc, rfl, hbel, hK, hN⟩ := hrel
                by_cases hlc : c < 8
                · have hic : (c : Int) < 8 := by omega
                  obtain ⟨x, hx⟩ := nCur_at a hla
                  obtain ⟨y, hy⟩ := nCur_at b hlb
                  obtain ⟨z, hz⟩ := nCur_at c hlc
                  have hw1 : IntKind.i64.wrap ((a : Int) + (b : Int)) = (a : Int) + (b : Int) := by rw [IntKind.wrap_i64]; omega
                  have hw2 : IntKind.i64.wrap ((a : Int) + (b : Int) + (c : Int)) = (a : Int) + (b : Int) + (c : Int) := by rw [IntKind.wrap_i64]; omega
                  obtain ⟨j, hj⟩ : ∃ j, (a + b + c) % 10 = j := ⟨_, rfl⟩
                  have hj9 : j < 10 := by omega
                  have hji : (j : Int) < 10 := by omega
                  have gj : ((a : Int) + (b : Int) + (c : Int)).tmod 10 = (j : Int) := by rw [Int.tmod_eq_emod_of_nonneg (by omega)]; omega
                  have wj : IntKind.i64.wrap (j : Int) = j := by rw [IntKind.wrap_i64]; omega
                  obtain ⟨ka, kc, hf⟩ := fCur_at j hj9
                  have HX := Lib.hid hx
                  have HY := Lib.hid hy
                  have HZ := Lib.hid hz
                  have k0 : wr.cell? ⟨kb, j * 2, none⟩ = some (.int .i64 ka) := (hK.cell _).trans hf.1
                  have k1 : wr.cell? ⟨kb, j * 2 + 1, none⟩ = some (.int .i64 kc) := (hK.cell _).trans hf.2
                  have d0 : (wr.alloc (.cells #[.int .i64 ka, .int .i64 kc] 33)).cell? ⟨wr.heap.size, 0, none⟩ = some (.int .i64 ka) := (Blk.new wr 33 #[.int .i64 ka, .int .i64 kc]).cell 0
                  have d1 : (wr.alloc (.cells #[.int .i64 ka, .int .i64 kc] 33)).cell? ⟨wr.heap.size, 1, none⟩ = some (.int .i64 kc) := (Blk.new wr 33 #[.int .i64 ka, .int .i64 kc]).cell 1
                  have dx : (wr.alloc (.cells #[.int .i64 ka, .int .i64 kc] 33)).cell? ⟨nb, a, none⟩ = some (.int .i64 x) := ((hN.alloc _).cell _).trans hx.1
                  have dy : (wr.alloc (.cells #[.int .i64 ka, .int .i64 kc] 33)).cell? ⟨nb, b, none⟩ = some (.int .i64 y) := ((hN.alloc _).cell _).trans hy.1
                  have dz : (wr.alloc (.cells #[.int .i64 ka, .int .i64 kc] 33)).cell? ⟨nb, c, none⟩ = some (.int .i64 z) := ((hN.alloc _).cell _).trans hz.1
                  have hBB : ∀ nq, Below wr.heap.size wr (((wr.alloc (.cells #[.int .i64 ka, .int .i64 kc] 33)).drewN nq).alloc (.cells (edC ka kc x y z) 35)) := fun nq => ((below_drewN ((Below.refl _ _).alloc (Nat.le_refl _) _) nq)).alloc (by show wr.heap.size ≤ (wr.alloc (.cells #[.int .i64 ka, .int .i64 kc] 33)).heap.size; simp) _
                  have HBB := Lib.hid hBB
                  have HBEL := Lib.hid hbel
                  have HK := Lib.hid hK
                  have HN := Lib.hid hN
                  clear hf hx hy hz hj hj9 hBB hbel hK hN
                  go_upto_region 22 with fail
                  simp only [List.append]
                  refine region_dtail 73 (by kernel_rfl) (by kernel_rfl) ?_
                  simp only [List.take_succ_cons, List.take_zero, List.drop_succ_cons, List.drop_zero]
                  repeat go_big_quiet_step (fail)
                  refine wpQuiet_nil ?_
                  rintro _ ⟨nq, rfl⟩
                  refine wpList_any fun ops => ?_
                  refine Go.wpList_buildSlice (by rfl) 22 35 16 _ (by rfl) (edC ka kc x y z) iO _ Tryz.underlying22 hiO hz0 (by rw [hz1]; decide) (by rw [hz1]; decide) (by rw [hz1]; kernel_rfl) ?_
                  obtain ⟨WB, hWB⟩ : ∃ X, (((wr.alloc (.cells #[.int .i64 ka, .int .i64 kc] 33)).drewN nq).alloc (.cells (edC ka kc x y z) 35)) = X := ⟨_, rfl⟩
                  have hWB2 : Hid ((((wr.alloc (.cells #[.int .i64 ka, .int .i64 kc] 33)).drewN nq).alloc (.cells (edC ka kc x y z) 35)) = WB) := Lib.hid hWB
                  have hrd := reads_calls ((wr.alloc (.cells #[.int .i64 ka, .int .i64 kc] 33)).drewN nq) (edO ka kc x y z) (edC ka kc x y z) (edC_list ka kc x y z) 16 rfl
                  obtain ⟨gB, hgB⟩ : ∃ g, ((wr.alloc (.cells #[.int .i64 ka, .int .i64 kc] 33)).drewN nq).heap.size = g := ⟨_, rfl⟩
                  rw [hWB, hgB] at hrd
                  have hss := storeScript_calls 3 1 (edO ka kc x y z) (some ⟨gB, 0, none⟩) 16 WB hrd (edO_wf ka kc x y z HX.out.2 HY.out.2 HZ.out.2) (by rw [edO_len]; omega) (HGG.out.below (below_after HBEL.out (hWB ▸ HBB.out nq)))
                  rw [edO_len] at hss
                  have hbw : Below wr.heap.size wr WB := hWB ▸ HBB.out nq
                  have HSS := Lib.hid hss
                  have HBW := Lib.hid hbw
                  rw [hWB, hgB]
                  clear hss hrd hgB hWB hWB2 hbw HBB k0 k1 d0 d1 dx dy dz gj wj hw1 hw2
                  go_wp2_with (fail)
                  refine HSS.out.mono ?_
                  rintro e w4 ⟨rfl, hb4⟩
                  have hb5 := below_after HBW.out hb4
                  go_wp2_with (fail)
                  go_roundw
                  case rel => (iterate 98 (apply Exists.intro)); (refine ⟨?rel, rfl⟩); exact ⟨c + 1, by omega, by go_num, below_after HBEL.out hb5, HK.out.below hb5 HK.out.lt, HN.out.below hb5 HN.out.lt⟩
                  case measure => simp [intOf]; omega
                · obtain rfl : c = 8 := by omega
                  go_wp2_with (fail)
                  go_roundw
                  case rel => exact ⟨b + 1, by omega, by go_num, hbel, hK, hN⟩
                  case measure => simp [intOf]; omega
            · obtain rfl : b = 8 := by omega
              go_wp2_with (fail)
              go_roundw
              case rel => exact ⟨a + 1, by omega, by go_num, hbel, hK, hN⟩
              case measure => simp [intOf]; omega
        · obtain rfl : a = 8 := by omega
          obtain ⟨wq, rfl⟩ : ∃ wq : World, wq = wr := ⟨_, rfl⟩
          go_wp2_with (fail)
          refine (many11_calls wq (HGG.out.below hbel)).mono ?_
          rintro e w4 ⟨rfl, hb4⟩
          go_wp2
          go_ret
          exact ⟨rfl, below_after hbel hb4⟩
end Go.Proofs.YtflkddllofeiaaaGreatDoor
