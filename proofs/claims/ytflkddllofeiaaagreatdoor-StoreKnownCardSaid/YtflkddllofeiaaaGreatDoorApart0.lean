/- Rows that lie apart: words for custodykit's Apart.. (what was handed out is written over, appended to, and read back). -/
import Derived.Test.YtflkddllofeiaaaGreatDoorBase
import Derived.ArgAppend
import Derived.Laws.IdiomCopy
namespace Go.Proofs.YtflkddllofeiaaaGreatDoor
set_option linter.unusedSimpArgs false
set_option linter.unusedVariables false
open Go.RowKit

/-- The mark's cells: of list k, element i. -/
structure Mark (s : Nat) where
  cs : Nat → Nat → List Value
  len : ∀ k i, (cs k i).length = s
  one : ∀ k i u, u ∈ cs k i → u.oneCell' = true

/-- A row v of list k (n elements, the first f of them marked): its block is one of k's. -/
def Fil {s : Nat} (M : Mark s) (e : TypeId) (ow : Nat → Nat) (B : Nat) (w : World) (v : Value) (k n f : Nat) : Prop :=
  (v = .slice none 0 0 ∧ n = 0) ∨ ∃ h cap cur, v = .slice (some ⟨h, 0, none⟩) n cap ∧ B ≤ h ∧ ow h = k ∧ Blk w h e cur ∧ cap * s ≤ cur.size ∧ n ≤ cap ∧ cap ≤ maxLen ∧ f ≤ n ∧
    ∀ i, i < f → ∀ j u, (M.cs k i)[j]? = some u → w.cell? ⟨h, i * s + j, none⟩ = some u

section
variable {s : Nat} {M : Mark s} {e : TypeId} {ow ow' : Nat → Nat} {B : Nat} {w w' : World} {v : Value} {k n f : Nat}
theorem Fil.slice (h : Fil M e ow B w v k n f) : ∃ A c, v = .slice A n c ∧ n ≤ c := by
  rcases h with ⟨rfl, rfl⟩ | ⟨g, cap, cur, rfl, _, _, _, _, hc, _⟩
  · exact ⟨_, _, rfl, Nat.le_refl _⟩
  · exact ⟨_, _, rfl, hc⟩
/-- What leaves k's blocks alone keeps a row of k. -/
theorem Fil.keep (h : Fil M e ow B w v k n f) (hk : ∀ b cur, Blk w b e cur → ow b = k → w'.heap[b]? = w.heap[b]?) (ho : ∀ b, b < w.heap.size → ow' b = ow b) : Fil M e ow' B w' v k n f := by
  rcases h with h | ⟨g, cap, cur, rfl, hB, hw, hb, hs, hc, hm, hf, hcell⟩
  · exact .inl h
  · have hg := hb.lt
    have he := hk g cur hb hw
    exact .inr ⟨g, cap, cur, rfl, hB, by rw [ho g hg, hw], he.trans hb, hs, hc, hm, hf, fun i hi j u hu => (World.cell?_of_block (a := ⟨g, i * s + j, none⟩) he).trans (hcell i hi j u hu)⟩
theorem Fil.less (h : Fil M e ow B w v k n f) {f' : Nat} (hf : f' ≤ f) : Fil M e ow B w v k n f' := by
  rcases h with h | ⟨g, cap, cur, rfl, hB, hw, hb, hs, hc, hm, hf0, hcell⟩
  · exact .inl h
  · exact .inr ⟨g, cap, cur, rfl, hB, hw, hb, hs, hc, hm, by omega, fun i hi => hcell i (by omega)⟩

theorem blk_setCells {g : Nat} {t : TypeId} : ∀ (us : List Value) (o : Nat) (w : World) (cur : Array Value), Blk w g t cur → ∃ cur', Blk (w.setCells g o us) g t cur' ∧ cur'.size = cur.size
  | [], o, w, cur, h => ⟨cur, h, rfl⟩
  | u :: us, o, w, cur, h => by
    obtain ⟨c2, h2, h3⟩ := blk_setCells us (o + 1) (w.setCell ⟨g, o, none⟩ u) _ (h.set_ o u)
    exact ⟨c2, h2, by rw [h3, Array.size_setIfInBounds]⟩
theorem heap_setCells {g : Nat} : ∀ (us : List Value) (o : Nat) (w : World) (b : Nat), b ≠ g → (w.setCells g o us).heap[b]? = w.heap[b]?
  | [], _, _, _, _ => rfl
  | u :: us, o, w, b, hb => (heap_setCells us (o + 1) (w.setCell ⟨g, o, none⟩ u) b hb).trans (Below.heap_setCell w ⟨g, o, none⟩ u b hb)
theorem below_setCells {g B : Nat} {a : World} (hg : B ≤ g) : ∀ (us : List Value) (o : Nat) (w : World), Below B a w → Below B a (w.setCells g o us)
  | [], _, _, h => h
  | u :: us, o, w, h => below_setCells hg us (o + 1) _ (h.setCell (p := ⟨g, o, none⟩) hg u)
theorem grown_setCells {g : Nat} (us : List Value) (o : Nat) (w : World) : w.grownBy (w.setCells g o us) (some g) := by
  have h : ∀ (us : List Value) (o : Nat) (w : World), (w.setCells g o us).os = w.os ∧ (w.setCells g o us).tape = w.tape ∧ (w.setCells g o us).output = w.output ∧ (w.setCells g o us).heap.size = w.heap.size := by
    intro us
    induction us with
    | nil => intro o w; exact ⟨rfl, rfl, rfl, rfl⟩
    | cons u us ih =>
      intro o w
      obtain ⟨h1, h2, h3, h4⟩ := ih (o + 1) (w.setCell ⟨g, o, none⟩ u)
      exact ⟨h1, h2, h3, h4.trans (by simp [World.setCell])⟩
  obtain ⟨h1, h2, h3, h4⟩ := h us o w
  exact ⟨h1, h2, h3, by omega, fun b _ hb => heap_setCells us o w b (fun he => hb (by rw [he]))⟩

/-- The element f is marked. -/
theorem Fil.mark {h cap : Nat} (hf : Fil M e ow B w (.slice (some ⟨h, 0, none⟩) n cap) k n f) (hlt : f < n) : Fil M e ow B (w.setCells h (f * s) (M.cs k f)) (.slice (some ⟨h, 0, none⟩) n cap) k n (f + 1) := by
  rcases hf with ⟨h0, _⟩ | ⟨g, cap', cur, h0, hB, hw, hb, hs, hc, hm, hf, hcell⟩
  · cases h0
  · injection h0 with h1 _ h2
    injection h1 with h1
    injection h1 with h1
    subst h1 h2
    obtain ⟨cur', hb', hs'⟩ := blk_setCells (M.cs k f) (f * s) w cur hb
    refine .inr ⟨h, cap, cur', rfl, hB, hw, hb', by omega, hc, hm, hlt, fun i hi j u hu => ?_⟩
    have hj : j < s := by have := (List.getElem?_eq_some_iff.1 hu).1; rwa [M.len] at this
    by_cases hif : i = f
    · subst hif
      have hin := World.cell?_setCells_in h (M.cs k i) (i * s) w (fun q hq => by
        rw [M.len] at hq
        rw [hb.cell]
        have : i * s + q < cur.size := by
          have h1 : (i + 1) * s ≤ cap * s := Nat.mul_le_mul_right _ (by omega)
          rw [Nat.add_mul] at h1
          omega
        simp [this]) j (by rw [M.len]; exact hj)
      rw [hin]
      exact (List.getElem?_eq_getElem _).symm.trans hu
    · rw [World.cell?_setCells_out h (M.cs k f) (f * s) w ⟨h, i * s + j, none⟩ (fun _ _ => .inl (by
        show i * s + j < f * s
        have h1 : (i + 1) * s ≤ f * s := Nat.mul_le_mul_right _ (by omega)
        rw [Nat.add_mul] at h1
        omega))]
      exact hcell i (by omega) j u hu

theorem fil_of_own {m W : Nat} {xs : List Value} (h : w'.ownsRow W e s v m xs) (h0 : 0 < m) (hB : B ≤ W) (how : ∀ b, W ≤ b → ow b = k) (hx : ∀ i, i < m → ∀ j u, (M.cs k i)[j]? = some u → xs[i * s + j]? = some u) : Fil M e ow B w' v k m m := by
  rcases h.2 with ⟨_, h1⟩ | ⟨g, cap, cur, h1, h2, h3, h4, h5, h6, h7⟩
  · omega
  · refine .inr ⟨g, cap, cur, h1, by omega, how g h2, h3, by omega, h4, h5, Nat.le_refl _, fun i hi j u hu => ?_⟩
    have := hx i hi j u hu
    rw [← h7, List.getElem?_take] at this
    split at this
    · rw [Blk.cell h3]
      simpa using this
    · cases this

/-- One more element, marked, behind a row that is all marked. -/
theorem run_append_fil {P : Program} (t ty : TypeId) (i : TypeInfo) (z : Value) (bytes : Nat) (ht : P.underlying t = some (.slice e)) (hi : P.info? e = some i) (hz : i.zero = some z)
    (hsize : i.size = s) (hby : i.bytes = bytes) (hzs : z.cells.size = s) (hsz : 0 < s) (hf : Fil M e ow B w v k n n) (a : Addr) (c : Nat) (hnews : ∀ j u, (M.cs k n)[j]? = some u → w.cell? (a.add j) = some u)
    (h63 : n + 1 ≤ maxLen) (hbytes : (n + 1) * bytes ≤ 140737488355328) (hB : B ≤ w.heap.size) :
    ∃ v' w' ow', (Builtin.append_ #[t, t] ty #[v, .slice (some a) 1 c]).run P w = .ok v' w' ∧ Fil M e ow' B w' v' k (n + 1) (n + 1) ∧ w.grownBy w' v.ownBlock ∧ (∀ b, b < w.heap.size → ow' b = ow b) ∧ (∀ b, v.ownBlock = some b → ow b = k) ∧
      ∀ v0 n0 f0, Fil M e ow B w v0 k n0 f0 → n0 ≤ n → Fil M e ow' B w' v0 k n0 f0 := by
  have hnl : (M.cs k n).length = 1 * s := by rw [M.len]; omega
  have how' : ∀ b, w.heap.size ≤ b → (fun b => if b < w.heap.size then ow b else k) b = k := fun b hb => if_neg (by omega)
  have how : ∀ b, b < w.heap.size → (fun b => if b < w.heap.size then ow b else k) b = ow b := fun b hb => if_pos hb
  rcases hf with ⟨rfl, rfl⟩ | ⟨h, cap, cur, rfl, hBh, hw, hb, hs, hc, hm, _, hcell⟩
  · obtain ⟨v', w', hr, ho, hg, _⟩ := run_append_own (P := P) w w.heap.size t ty e i z s bytes ht hi hz hsize hby hzs hsz (.slice none 0 0) 0 [] (World.ownsRow_nil _ _ _ _) a 1 c (M.cs k 0) hnl hnews (M.one k 0) (by omega) (by omega) (Nat.le_refl _)
    refine ⟨v', w', _, hr, fil_of_own (ow := fun b => if b < w.heap.size then ow b else k) ho (by omega) hB how' (fun q hq j u hu => ?_), hg, how, fun b hb => by simp [Value.ownBlock] at hb, fun v0 n0 f0 hv0 hn0 => hv0.keep (fun b _ hb _ => hg.block b hb.lt (by simp [Value.ownBlock])) how⟩
    obtain rfl : q = 0 := by omega
    simpa using hu
  · have hlt := hb.lt
    by_cases hroom : n + 1 ≤ cap
    · have hin : ∀ q, q < s → n * s + q < cur.size := fun q hq => by
        have h1 : (n + 1) * s ≤ cap * s := Nat.mul_le_mul_right _ hroom
        rw [Nat.add_mul] at h1
        omega
      have hr := run_append_room_cells (P := P) w t ty e i ht hi h 0 n cap a 1 c (M.cs k n) (by rw [hnl, hsize]) hnews (M.one k n) hroom (fun j hj => by
        rw [M.len] at hj
        rw [hsize, Nat.zero_add, hb.cell]
        have := hin j hj
        simp [this]) (fun j hj => hb.frozen _)
      rw [hsize, Nat.zero_add] at hr
      refine ⟨_, _, ow, hr, Fil.mark (.inr ⟨h, cap, cur, rfl, hBh, hw, hb, hs, hroom, hm, by omega, hcell⟩) (by omega), grown_setCells _ _ _, fun _ _ => rfl, fun b hb => by simp only [Value.ownBlock, Option.some.injEq] at hb; rw [← hb]; exact hw, fun v0 n0 f0 hv0 hn0 => ?_⟩
      rcases hv0 with h0 | ⟨g, cap0, cur0, rfl, hB0, hw0, hb0, hs0, hc0, hm0, hf0, hcell0⟩
      · exact .inl h0
      · by_cases hgh : g = h
        · subst hgh
          obtain ⟨cur', hb', hs'⟩ := blk_setCells (M.cs k n) (n * s) w cur0 hb0
          refine .inr ⟨g, cap0, cur', rfl, hB0, hw0, hb', by omega, hc0, hm0, hf0, fun i hi j u hu => ?_⟩
          have hj : j < s := by have := (List.getElem?_eq_some_iff.1 hu).1; rwa [M.len] at this
          rw [World.cell?_setCells_out g (M.cs k n) (n * s) w ⟨g, i * s + j, none⟩ (fun _ _ => .inl (by
            show i * s + j < n * s
            have h1 : (i + 1) * s ≤ n * s := Nat.mul_le_mul_right _ (by omega)
            rw [Nat.add_mul] at h1
            omega))]
          exact hcell0 i hi j u hu
        · have he := heap_setCells (M.cs k n) (n * s) w g hgh
          exact .inr ⟨g, cap0, cur0, rfl, hB0, hw0, he.trans hb0, hs0, hc0, hm0, hf0, fun i hi j u hu => (World.cell?_of_block (a := ⟨g, i * s + j, none⟩) he).trans (hcell0 i hi j u hu)⟩
    · have hns : n * s ≤ cur.size := Nat.le_trans (Nat.mul_le_mul_right _ hc) hs
      have hol : (cur.toList.take (n * s)).length = n * s := by rw [List.length_take]; simp; omega
      obtain ⟨v', w', hr, ho, hg⟩ := run_append_arg_grows (P := P) w t ty e i z s bytes ht hi hz hsize hby hzs hsz ⟨h, 0, none⟩ n cap (cur.toList.take (n * s)) hol (fun j u hj => by
        rw [Addr.add_lit, Nat.zero_add, hb.cell]
        rw [List.getElem?_take] at hj
        split at hj
        · simpa using hj
        · cases hj) a 1 c (M.cs k n) hnl hnews (by omega) h63 hbytes
      refine ⟨v', w', _, hr, fil_of_own (ow := fun b => if b < w.heap.size then ow b else k) ho (by omega) hB how' (fun q hq j u hu => ?_), ⟨hg.os, hg.tape, hg.output, hg.size, fun b hb _ => hg.block b hb (by simp)⟩, how, fun b hb => by simp only [Value.ownBlock, Option.some.injEq] at hb; rw [← hb]; exact hw, fun v0 n0 f0 hv0 hn0 => hv0.keep (fun b _ hb _ => hg.block b hb.lt (by simp)) how⟩
      have hj : j < s := by have := (List.getElem?_eq_some_iff.1 hu).1; rwa [M.len] at this
      by_cases hqn : q < n
      · have hlt2 : q * s + j < n * s := by
          have h1 : (q + 1) * s ≤ n * s := Nat.mul_le_mul_right _ (by omega)
          rw [Nat.add_mul] at h1
          omega
        rw [List.getElem?_append_left (by rw [hol]; exact hlt2), List.getElem?_take, if_pos hlt2]
        have h2 := hcell q hqn j u hu
        rw [hb.cell] at h2
        simpa using h2
      · obtain rfl : q = n := by omega
        rw [List.getElem?_append_right (by rw [hol]; omega), hol]
        simpa using hu

/-- The block of a row. -/
theorem Fil.blk (h : Fil M e ow B w v k n f) {b : Nat} (hb : v.ownBlock = some b) : (∃ cur, Blk w b e cur) ∧ ow b = k ∧ B ≤ b := by
  rcases h with ⟨rfl, _⟩ | ⟨g, cap, cur, rfl, hB, hw, hbl, _⟩
  · simp [Value.ownBlock] at hb
  · simp only [Value.ownBlock, Option.some.injEq] at hb
    subst hb
    exact ⟨⟨cur, hbl⟩, hw, hB⟩
theorem Fil.up (h : Fil M e ow B w v k n f) (hb : Below w.heap.size w w') : Fil M e ow B w' v k n f := h.keep (fun b _ hk _ => hb.block b hk.lt) (fun _ _ => rfl)
/-- All rows, those ahead of k marked, of k the first f. -/
def Rows {s : Nat} (M : Mark s) (e : TypeId) (ow : Nat → Nat) (B : Nat) (w : World) (v : Nat → Value) (m : Nat → Nat) (n k f : Nat) : Prop := ∀ j, j < n → Fil M e ow B w (v j) j (m j) (if j < k then m j else if j = k then f else 0)
section
variable {vs : Nat → Value} {m : Nat → Nat} {N i : Nat}
theorem Rows.up (h : Rows M e ow B w vs m N k i) (hb : Below w.heap.size w w') : Rows M e ow B w' vs m N k i := fun j hj => (h j hj).up hb
theorem Rows.next (h : Rows M e ow B w vs m N k (m k)) : Rows M e ow B w vs m N (k + 1) 0 := fun j hj => by
  have := h j hj
  by_cases h1 : j < k
  · rw [if_pos h1] at this; rw [if_pos (by omega)]; exact this
  · rw [if_neg h1] at this
    by_cases h2 : j = k
    · subst h2; rw [if_pos rfl] at this; rw [if_pos (by omega)]; exact this
    · rw [if_neg h2] at this; rw [if_neg (by omega)]; split
      · exact this
      · exact this
theorem Rows.mark {h cap : Nat} (hr : Rows M e ow B w vs m N k i) (hk : k < N) (hv : vs k = .slice (some ⟨h, 0, none⟩) (m k) cap) (hi : i < m k) : Rows M e ow B (w.setCells h (i * s) (M.cs k i)) vs m N k (i + 1) := fun j hj => by
  have hkk := hr k hk
  rw [if_neg (by omega), if_pos rfl, hv] at hkk
  by_cases h2 : j = k
  · subst h2
    rw [if_neg (by omega), if_pos rfl, hv]
    exact hkk.mark hi
  · have hj0 := hr j hj
    rw [if_neg h2] at hj0 ⊢
    exact hj0.keep (fun b _ _ hb => heap_setCells _ _ _ b (fun he => by subst he; have := (hkk.blk (b := b) rfl).2.1; omega)) (fun _ _ => rfl)
theorem Rows.start (h : ∀ j, j < N → Fil M e ow B w (vs j) j (m j) 0) : Rows M e ow B w vs m N 0 0 := fun j hj => by
  rw [if_neg (by omega)]
  split
  · exact h j hj
  · exact h j hj
/-- The rows marked, and what was made of those ahead of k: 64 more elements each. -/
def GsAt {s : Nat} (M : Mark s) (e : TypeId) (ow : Nat → Nat) (B : Nat) (w : World) (v : Nat → Value) (m : Nat → Nat) (N : Nat) (gs : Nat → Value) (k : Nat) : Prop :=
  (∀ j, j < N → Fil M e ow B w (v j) j (m j) (m j)) ∧ ∀ j, j < k → Fil M e ow B w (gs j) j (m j + 64) (m j + 64)
section
variable {gs : Nat → Value} {x : Value} {p : Nat}
theorem GsAt.up (h : GsAt M e ow B w vs m N gs k) (hb : Below w.heap.size w w') : GsAt M e ow B w' vs m N gs k := ⟨fun j hj => (h.1 j hj).up hb, fun j hj => (h.2 j hj).up hb⟩
theorem GsAt.append (h : GsAt M e ow B w vs m N gs k) (hp : m k ≤ p) (hg : w.grownBy w' x.ownBlock) (how : ∀ b, b < w.heap.size → ow' b = ow b) (hown : ∀ b, x.ownBlock = some b → ow b = k)
    (hl : ∀ v0 n0 f0, Fil M e ow B w v0 k n0 f0 → n0 ≤ p → Fil M e ow' B w' v0 k n0 f0) : GsAt M e ow' B w' vs m N gs k := by
  have far : ∀ j, j ≠ k → ∀ b cur, Blk w b e cur → ow b = j → w'.heap[b]? = w.heap[b]? := fun j hj b cur hb ho => hg.block b hb.lt (fun he => hj (by rw [← ho, hown b he.symm]))
  refine ⟨fun j hj => ?_, fun j hj => (h.2 j hj).keep (far j (by omega)) how⟩
  by_cases hjk : j = k
  · subst hjk
    exact hl _ _ _ (h.1 j hj) hp
  · exact (h.1 j hj).keep (far j hjk) how
theorem GsAt.far (h : GsAt M e ow B w vs m N gs k) {row : Option Nat} (hg : w.grownBy w' row) (hr : ∀ b cur, Blk w b e cur → some b ≠ row) : GsAt M e ow B w' vs m N gs k :=
  ⟨fun j hj => (h.1 j hj).keep (fun b cur hb _ => hg.block b hb.lt (hr b cur hb)) (fun _ _ => rfl), fun j hj => (h.2 j hj).keep (fun b cur hb _ => hg.block b hb.lt (hr b cur hb)) (fun _ _ => rfl)⟩
theorem GsAt.push (h : GsAt M e ow B w vs m N gs k) (hx : Fil M e ow B w x k (m k + 64) (m k + 64)) : GsAt M e ow B w vs m N (fun j => if j = k then x else gs j) (k + 1) :=
  ⟨h.1, fun j hj => by
    by_cases hjk : j = k
    · subst hjk; simpa using hx
    · simpa [hjk] using h.2 j (by omega)⟩
end
theorem alloc_here (w : World) (o : Obj) : Below w.heap.size w (w.alloc o) := (Below.refl _ _).alloc (Nat.le_refl _) o
theorem own_up {w w' : World} {base : Nat} {e : TypeId} {size n : Nat} {v : Value} {xs : List Value} (h : w.ownsRow base e size v n xs) (hb : Below w.heap.size w w') : w'.ownsRow base e size v n xs := by
  obtain ⟨h1, h2⟩ := h
  refine ⟨h1, ?_⟩
  rcases h2 with h2 | ⟨g, cap, cur, rfl, hg, hh, r⟩
  · exact .inl h2
  · exact .inr ⟨g, cap, cur, rfl, hg, (hb.block g (Blk.lt hh)).trans hh, r⟩
theorem own_types {w w' : World} {base : Nat} {t e : TypeId} {size n : Nat} {v : Value} {xs : List Value} {row : Option Nat} (h : w.ownsRow base t size v n xs) (hg : w.grownBy w' row) (hr : ∀ b, row = some b → ∃ cur, Blk w b e cur) (hne : t ≠ e) : w'.ownsRow base t size v n xs := by
  obtain ⟨h1, h2⟩ := h
  refine ⟨h1, ?_⟩
  rcases h2 with h2 | ⟨g, cap, cur, rfl, hgb, hh, r⟩
  · exact .inl h2
  · refine .inr ⟨g, cap, cur, rfl, hgb, (hg.block g (Blk.lt hh) (fun he => ?_)).trans hh, r⟩
    obtain ⟨cur2, h3⟩ := hr g he.symm
    exact Blk.ne_ (t := t) hh h3 hne rfl
theorem blk_types {w w' : World} {t e : TypeId} {g : Nat} {cs : Array Value} {row : Option Nat} (h : Blk w g t cs) (hg : w.grownBy w' row) (hr : ∀ b, row = some b → ∃ cur, Blk w b e cur) (hne : t ≠ e) : Blk w' g t cs :=
  (hg.block g h.lt (fun he => by obtain ⟨cur2, h3⟩ := hr g he.symm; exact Blk.ne_ h h3 hne rfl)).trans h
/-- Blocks of other types than e stay; maps stay. -/
structure KeepT (e : TypeId) (w w' : World) : Prop where
  out : ∀ b t cs, t ≠ e → Blk w b t cs → Blk w' b t cs
  map : ∀ (b : Nat) es clk, w.heap[b]? = some (Obj.map es clk) → w'.heap[b]? = some (Obj.map es clk)
theorem KeepT.refl (e : TypeId) (w : World) : KeepT e w w := ⟨fun _ _ _ _ h => h, fun _ _ _ h => h⟩
theorem KeepT.below {e : TypeId} {w w1 w2 : World} (h : KeepT e w w1) (hb : Below w1.heap.size w1 w2) : KeepT e w w2 :=
  ⟨fun b t cs ht hk => (h.out b t cs ht hk).below hb (h.out b t cs ht hk).lt, fun b es clk hk => (hb.block b (Array.getElem?_eq_some_iff.1 (h.map b es clk hk)).1).trans (h.map b es clk hk)⟩
theorem KeepT.row {e : TypeId} {w w1 w2 : World} {row : Option Nat} (h : KeepT e w w1) (hg : w1.grownBy w2 row) (hr : ∀ b, row = some b → ∃ cur, Blk w1 b e cur) : KeepT e w w2 :=
  ⟨fun b t cs ht hk => blk_types (h.out b t cs ht hk) hg hr ht, fun b es clk hk => (hg.block b (Array.getElem?_eq_some_iff.1 (h.map b es clk hk)).1 (fun he => by
    obtain ⟨cur, hc⟩ := hr b he.symm
    have h1 := h.map b es clk hk
    unfold Blk at hc
    rw [hc] at h1
    cases h1)).trans (h.map b es clk hk)⟩
theorem KeepT.new {e : TypeId} {w w1 w2 : World} {row : Option Nat} (h : KeepT e w w1) (hg : w1.grownBy w2 row) (hr : ∀ b, row = some b → w.heap.size ≤ b) : KeepT e w w2 :=
  ⟨fun b t cs ht hk => (h.out b t cs ht hk).grown hg (fun he => by have := hr b he.symm; have := hk.lt; omega), fun b es clk hk => (hg.block b (Array.getElem?_eq_some_iff.1 (h.map b es clk hk)).1 (fun he => by
    have := hr b he.symm; have := (Array.getElem?_eq_some_iff.1 hk).1; omega)).trans (h.map b es clk hk)⟩
theorem KeepT.fil {e e2 : TypeId} {w w' : World} {s : Nat} {M : Mark s} {ow : Nat → Nat} {B : Nat} {v : Value} {k n f : Nat} (h : KeepT e w w') (hne : e2 ≠ e) (hf : Fil M e2 ow B w v k n f) : Fil M e2 ow B w' v k n f :=
  hf.keep (fun b cur hb _ => by have := h.out b e2 cur hne hb; unfold Blk at this hb; rw [this, hb]) (fun _ _ => rfl)
theorem wpList_append_run {P : Program} (w : World) {ops : Array Oper} {rest : List Oper} {o : Oper} {a : Act} {Q : Exit → Act → World → Prop}
    (hg : o.guard = none) (s x : Operand) (t : TypeId) (hop : o.op = Op.call { callee := Callee.builtin Builtin.append, args := #[s, x], argTypes := #[t, t] })
    (v y : Value) (hs : a.eval s = v) (hx : a.eval x = y) (v' : Value) (w' : World) (hrun : (Builtin.append_ #[t, t] o.type #[v, y]).run P w = .ok v' w')
    (hk : wpList P ops Q rest (a.put o.dst v') w') : wpList P ops Q (o :: rest) a w := by
  refine wpList_plain hg fun K hK' => ?_
  unfold Oper.wp
  simp [execOp, hop, resolve, invoke, builtin, hs, hx, hrun, Result.andThen]
  exact hK' _ _ hk
theorem range_push (gs : Nat → Value) (x : Value) (k : Nat) : (List.range (k + 1)).map (fun j => if j = k then x else gs j) = (List.range k).map gs ++ [x] := by
  rw [List.range_succ, List.map_append]
  congr 1
  · exact List.map_congr_left fun j hj => if_neg (by have := List.mem_range.1 hj; omega)
  · simp
theorem Rows.done (h : Rows M e ow B w vs m N N 0) : ∀ j, j < N → Fil M e ow B w (vs j) j (m j) (m j) := fun j hj => by
  have := h j hj
  rwa [if_pos hj] at this
end
end
end Go.Proofs.YtflkddllofeiaaaGreatDoor
