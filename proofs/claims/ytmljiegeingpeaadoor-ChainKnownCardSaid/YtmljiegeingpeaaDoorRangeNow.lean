/- A range over a function whose iterator tells each round what it knows of the world at that moment (no program in it). -/
import Derived.RangeFuncWrites
namespace Go.Proofs.YtmljiegeingpeaaDoor
set_option linter.unusedSimpArgs false
set_option linter.unusedVariables false
open Go.RowKit

section
variable {α : Type} {F : Fence} {n : Nat} {P : Program}

/-- An iterator that hands a round the fact Rn pre x W of the moment: the round may use it, and answers by Kp. -/
def SeqNow (F : Fence) (n : Nat) (P : Program) (g : Nat) (lb : Array Value) (encs : α → Array Value) (Rn : List α → α → World → Prop) (Kp : World → World → Prop) (S : List α → World → Prop) (w : World) : Prop :=
  ∀ (l : Nat) (J Jx : List α → World → Prop) (W : World), Below w.heap.size w W → AbidesFrom W.heap.size J → AbidesFrom W.heap.size Jx →
    (∀ pre x W1, J pre W1 → Rn pre x W1 → YieldAt F (n - 1) P l (encs x) W1 fun e W' =>
      (e = .returned (.bool true) ∧ J (pre ++ [x]) W' ∧ Kp W1 W') ∨ (e = .returned (.bool false) ∧ Jx (pre ++ [x]) W')) →
    J [] W →
    CallsIn F n P g (#[.func (.yield l) #[] #[]] ++ lb) W fun e W' => (∃ v, e = .returned v) ∧ ((∃ xs, S xs W' ∧ J xs W') ∨ (∃ pre, Jx pre W'))

/-- The loop's two blocks: the record, and the calls put off. -/
structure Books (B : Nat) (r : Loop) (W : World) : Prop where
  loop : W.heap[B + 1]? = some (.loop r)
  late : W.heap[B]? = some (.deferred (some []))
theorem Books.lt {B : Nat} {r : Loop} {W : World} (h : Books B r W) : B + 1 < W.heap.size := (Array.getElem?_eq_some_iff.1 h.loop).1
theorem Books.put {B : Nat} {r : Loop} {W : World} (h : Books B r W) (r' : Loop) : Books B r' (W.putObj (B + 1) (.loop r')) :=
  ⟨World.putObj_heap_same h.lt, (World.putObj_heap_other (by omega)).trans h.late⟩
theorem Books.from {B : Nat} {r : Loop} {W W' : World} (h : Books B r W) (hk : KeepsFrom B W W') : Books B r W' :=
  ⟨hk.same _ _ (by omega) h.loop rfl, hk.same _ _ (Nat.le_refl _) h.late rfl⟩
theorem Books.abide {B : Nat} {r : Loop} {W W' : World} {row : Option Nat} (h : Books B r W) (hg : W.grownBy W' row) (hr : ∀ j, row = some j → ∃ o : Obj, W.heap[j]? = some o ∧ o.isWalk = true) : Books B r W' :=
  ⟨(grownBy_keeps hg hr h.loop rfl).trans h.loop, (grownBy_keeps hg hr h.late rfl).trans h.late⟩

theorem range_now {g : Operand} {ps : Array Tmp} {assign body : Code} {Q : Exit → Act → World → Prop} {a : Act} {w : World}
    (hro : F.round = none) (h1 : 1 ≤ n) {gf : Nat} {lb : Array Value} (hg : a.eval g = .func (.func gf) #[] lb) (hFg : F.fn gf) (eg : ∀ args w, (callFunc gf args).run P w = .ok (.enter gf args) w)
    {encs : α → Array Value} {Rn : List α → α → World → Prop} {Kp : World → World → Prop} {S : List α → World → Prop} {w0 : World} (hseq : SeqNow F (n - 1) P gf lb encs Rn Kp S w0)
    (hKt : ∀ {A B C : World}, Kp A B → Kp B C → Kp A C) (hKb : ∀ (W : World) (l : Nat) (o o' : Obj), w.heap.size ≤ l → W.heap[l]? = some o → o.isCells = false → o.isWalk = false → Kp W (W.putObj l o'))
    (hRb : ∀ pre x (W : World) (l : Nat) (o o' : Obj), w.heap.size ≤ l → W.heap[l]? = some o → o.isCells = false → Rn pre x W → Rn pre x (W.putObj l o'))
    (hSb : ∀ xs (W : World) (l : Nat) (o o' : Obj), w.heap.size ≤ l → W.heap[l]? = some o → o.isCells = false → S xs W → S xs (W.putObj l o'))
    (hb0 : Below w0.heap.size w0 w) (hps : ∀ x, (encs x).size = ps.size)
    (I : List α → World → Prop) (Ix : Code → List α → World → Prop) (hI : OwnFrom w.heap.size I) (hIx : ∀ c, OwnFrom w.heap.size (Ix c)) (h0 : I [] w) (a₁ : α → Act)
    (hassign : ∀ (l : Nat) (x : α) (W : World) (K : Act → World → Prop), K (a₁ x) W →
      assign.wpIn (F.inRound l) (n - 1 - 1) P (Exit.then K (fun _ _ _ => False)) { tmps := (ps.zip (encs x)).foldl (fun t (p, v) => t.setIfInBounds p v) a.tmps, defers := [] } W)
    (hbody : ∀ (l : Nat) (pre : List α) (x : α) (W : World), I pre W → Rn pre x W → body.wpIn (F.inRound l) (n - 1 - 1) P (ownPostG w.heap.size Kp I Ix (pre ++ [x]) W) (a₁ x) W)
    (hdone : ∀ (D : Nat) (xs : List α) (W : World), w.heap.size ≤ D → S xs W → I xs W → W.heap[D]? = some (.deferred (some [])) → Q .normal { a with defers := { target := .collected D, args := #[] } :: a.defers } W)
    (hstop : ∀ (D : Nat) (c : Code) (pre : List α) (W : World), w.heap.size ≤ D → Ix c pre W → W.heap[D]? = some (.deferred (some [])) → c.wpIn F n P Q { a with defers := { target := .collected D, args := #[] } :: a.defers } W) :
    (Code.rangeFunc g ps assign body).wpIn F n P Q a w := by
  refine wpIn_rangeFunc fun fn hfn => ?_
  rw [hro]
  generalize hB : w.heap.size = B at hKb hRb hSb hI hIx hbody hdone hstop
  obtain ⟨r, hr⟩ : ∃ r : Loop, r = { state := .ready, pending := none, fn, tmps := a.tmps, params := ps, assign, body, defers := B } := ⟨_, rfl⟩
  have hrp : r.params = ps := by rw [hr]
  obtain ⟨W1, hW1⟩ : ∃ W1, (w.alloc (.deferred (some []))).alloc (.loop r) = W1 := ⟨_, rfl⟩
  have hbk : Books B r W1 := by
    rw [← hW1, ← hB]
    refine ⟨?_, (Below.heap_alloc _ _ _ (by simp)).trans (World.alloc_heap_new w _)⟩
    have := World.alloc_heap_new (w.alloc (.deferred (some []))) (.loop r)
    rwa [World.size_alloc] at this
  have hs1 : W1.heap.size = B + 2 := by rw [← hW1, ← hB]; simp
  have hI1 : I [] W1 := by rw [← hW1]; exact hI.alloc _ (hI.alloc _ h0)
  have hb1 : Below w0.heap.size w0 W1 := by
    rw [← hW1]
    exact hb0.trans ((((Below.refl _ w).alloc (Nat.le_refl _) _).alloc (by simp) _).mono hb0.size)
  have hwalk : ∀ {A : World} {row : Option Nat}, (∀ j, row = some j → W1.heap.size ≤ j ∧ ∃ o : Obj, A.heap[j]? = some o ∧ o.isWalk = true) → ∀ j, row = some j → B ≤ j ∧ ∃ o : Obj, A.heap[j]? = some o ∧ o.isCells = false := by
    intro A row h j e
    obtain ⟨h2, o, ho, hw⟩ := h j e
    exact ⟨by omega, o, ho, Obj.not_cells_of_walk hw⟩
  have hcall := hseq (B + 1) (fun pre W => I pre W ∧ Books B r W) (fun pre W => ∃ c, Ix c pre W ∧ Books B { r with state := .done, pending := some c } W) W1 hb1
    (fun s X Y row hs hg2 hr2 => ⟨hI s X Y row hs.1 hg2 (hwalk hr2), hs.2.abide hg2 fun j e => (hr2 j e).2⟩)
    (fun s X Y row ⟨c, hc, hk⟩ hg2 hr2 => ⟨c, hIx c s X Y row hc hg2 (hwalk hr2), hk.abide hg2 fun j e => (hr2 j e).2⟩)
    ?_ ⟨hI1, hbk⟩
  · refine ⟨B + 1, [{ target := .collected B, args := #[] }], W1, { target := .fn (.func gf) lb, args := #[.func (.yield (B + 1)) #[] #[]] }, W1, gf, #[.func (.yield (B + 1)) #[] #[]] ++ lb, W1, ?_, ?_, ?_, ?_, fun _ => h1, ?_⟩
    · have h := run_enterLoop_outer (P := P) (w := w) fn a.tmps ps assign body
      rw [h, ← hW1, hr, ← hB]
    · simp only [resolve, hg]
      simp [go_sem]
    · intro f' hf'
      simp [Target.leads] at hf'
      subst hf'
      exact hFg
    · simp [invoke, go_sem, eg]
    · refine hcall.mono ?_
      rintro e W2 ⟨⟨v, rfl⟩, h⟩
      rcases h with ⟨xs, hS, hi, hk⟩ | ⟨pre, c, hi, hk⟩
      · have he := run_endLoop (P := P) hk.loop (by rw [hr]; simp)
        exact ⟨_, _, he, by rw [hr]; exact hdone B xs _ (Nat.le_refl _) (hSb _ _ _ _ _ (by omega) hk.loop rfl hS) (hI.putObj _ hi (by omega) hk.loop rfl) ((World.putObj_heap_other (by omega)).trans hk.late)⟩
      · have he := run_endLoop (P := P) hk.loop (by simp)
        exact ⟨_, _, he, hstop B c pre _ (Nat.le_refl _) ((hIx c).putObj _ hi (by omega) hk.loop rfl) ((World.putObj_heap_other (by omega)).trans hk.late)⟩
  · rintro pre x W ⟨hi, hk⟩ hrn
    have hy := run_yield (P := P) (args := encs x) hk.loop (by rw [hrp]; exact hps x)
    have hbeg := run_beginRound (P := P) hk.loop (by rw [hr])
    obtain ⟨W2, hW2⟩ : ∃ W2, W.putObj (B + 1) (.loop { r with state := .busy }) = W2 := ⟨_, rfl⟩
    rw [hW2] at hbeg
    have hk2 : Books B { r with state := .busy } W2 := hW2 ▸ hk.put _
    have hi2 : I pre W2 := hW2 ▸ hI.putObj _ hi (by omega) hk.loop rfl
    have hr2 : Rn pre x W2 := hW2 ▸ hRb _ _ _ _ _ _ (by omega) hk.loop rfl hrn
    have hp2 : Kp W W2 := hW2 ▸ hKb _ _ _ _ (by omega) hk.loop rfl rfl
    have hend : ∀ (jump : Option Code) (W3 : World), KeepsFrom B W2 W3 → Books B { r with state := .busy } W3 ∧
        (Instr.endRound (B + 1) jump).run P W3 = .ok (.bool jump.isNone) (W3.putObj (B + 1) (.loop { r with state := if jump.isNone then .ready else .done, pending := jump })) := fun jump W3 h3 => by
      have hk3 := hk2.from h3
      have he := run_endRound (P := P) jump hk3.loop
      exact ⟨hk3, he⟩
    rw [hr] at hy
    refine ⟨fn, _, assign, body, hy, roundIn_of_wpIn hfn (hassign _ x W _ ⟨W2, hbeg, wpIn_mono (hbody _ pre x W2 hi2 hr2) ?_⟩)⟩
    have hrr : ({ r with state := .ready, pending := none } : Loop) = r := by rw [hr]
    rintro e a3 W3 hp
    cases e with
    | normal =>
      obtain ⟨h3, hkp, hi3⟩ := hp
      obtain ⟨hk3, he⟩ := hend none W3 h3
      have hk4 := hk3.put { r with state := .ready, pending := none }
      exact ⟨_, _, he, .inl ⟨rfl, ⟨hI.putObj _ hi3 (by omega) hk3.loop rfl, hrr ▸ hk4⟩, hKt (hKt hp2 hkp) (hKb _ _ _ _ (by omega) hk3.loop rfl rfl)⟩⟩
    | ret =>
      obtain ⟨hk3, he⟩ := hend (some .ret) W3 hp.1
      exact ⟨_, _, he, .inr ⟨rfl, .ret, (hIx _).putObj _ hp.2 (by omega) hk3.loop rfl, hk3.put _⟩⟩
    | exit id =>
      obtain ⟨hk3, he⟩ := hend (some (.exit id)) W3 hp.1
      exact ⟨_, _, he, .inr ⟨rfl, .exit id, (hIx _).putObj _ hp.2 (by omega) hk3.loop rfl, hk3.put _⟩⟩
    | goto t =>
      obtain ⟨hk3, he⟩ := hend (some (.goto t)) W3 hp.1
      exact ⟨_, _, he, .inr ⟨rfl, .goto t, (hIx _).putObj _ hp.2 (by omega) hk3.loop rfl, hk3.put _⟩⟩
    | panic ch => exact hp.elim
    | outgrown => exact hp.elim
end
end Go.Proofs.YtmljiegeingpeaaDoor
