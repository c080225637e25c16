/- StoreKnown: one store, with its rows, in one memory with the law. -/
import Derived.Test.YtflkddllofeiaaaGreatDoorKe11
namespace Go.Proofs.YtflkddllofeiaaaGreatDoor
open Go.RowKit Go.MapKept Go.ChangeMaps Go.Maps
set_option linter.unusedVariables false
set_option linter.unusedSimpArgs false

/-- A store of n shards at p with the rows of A, above w0's end. -/
def SB (w0 w : World) (p n : Nat) (A : AbS) (g : Nat) : Prop :=
  ∃ s : StV, s.p = p ∧ s.n = n ∧ StAt w s ∧ Sim s A ∧ (A.rows.map (·.1)).Nodup ∧ (∀ i, s.of i → w0.heap.size ≤ i) ∧ Below w0.heap.size w0 w ∧ Blk w g 33 #[.int .i64 3, .int .i64 1] ∧ ¬ s.of g
section
variable {w0 w w' : World} {p n g : Nat} {A : AbS}
theorem SB.bel (h : SB w0 w p n A g) : Below w0.heap.size w0 w := by obtain ⟨_, _, _, _, _, _, _, h, _⟩ := h; exact h
theorem SB.key (h : SB w0 w p n A g) : Blk w g 33 #[.int .i64 3, .int .i64 1] := by obtain ⟨_, _, _, _, _, _, _, _, h, _⟩ := h; exact h
theorem SB.lt (h : SB w0 w p n A g) : w0.heap.size ≤ w.heap.size := h.bel.size
theorem SB.below (h : SB w0 w p n A g) (hb : Below w.heap.size w w') : SB w0 w' p n A g := by
  obtain ⟨s, h1, h2, h3, h4, h5, h6, h7, h8, h9⟩ := h
  exact ⟨s, h1, h2, h3.below hb, h4, h5, h6, below_after h7 hb, h8.below hb h8.lt, h9⟩
theorem newS_SB {s : StV} {w1 : World} {na : Nat} (hs : StAt w1 s) (hn : s.n = na) (hc : s.chs = []) (hR : s.R = []) (hbg : s.bg = 0) (hb : Below w0.heap.size w0 w1) (ho : ∀ i, s.of i → w0.heap.size ≤ i) : SB w0 (w1.alloc (.cells #[.int .i64 3, .int .i64 1] 33)) s.p na ⟨[], [], 0⟩ w1.heap.size := by
  have hb1 : Below w1.heap.size w1 (w1.alloc (.cells #[.int .i64 3, .int .i64 1] 33)) := (Below.refl _ _).alloc (Nat.le_refl _) _
  exact ⟨s, rfl, hn, hs.below hb1, ⟨by unfold StV.rows; rw [hc]; exact List.Perm.refl _, hR, hbg⟩, List.nodup_nil, ho, below_after hb hb1, Blk.new _ _ _, fun hi => Nat.lt_irrefl _ (hs.lt hi)⟩
theorem SB.shards (h : SB w0 w p n A g) : Calls Tryz.prog 18 #[.pointer (some ⟨p, 0, none⟩)] w fun e w' => e = .returned (.int .i64 n) ∧ w' = w := by
  obtain ⟨s, rfl, rfl, h3, h4, h5, h6, h7, h8, h9⟩ := h
  exact shards_calls s w h3
theorem SB.keys0 (h : SB w0 w p n A g) (hr : A.rows = []) : Calls Tryz.prog 12 #[.pointer (some ⟨p, 0, none⟩)] w fun e w' => ∃ a c, e = .returned (.slice a 0 c) ∧ SB w0 w' p n A g := by
  have hh := h
  obtain ⟨s, rfl, rfl, h3, h4, h5, h6, h7, h8, h9⟩ := h
  have hl : s.rows = [] := List.Perm.eq_nil (hr ▸ h4.rows)
  have hc : s.chs.length = 0 := by have := congrArg List.length hl; unfold StV.rows at this; simpa using this
  refine (keysS_calls s w h3 (by omega)).mono ?_
  rintro e w' ⟨v, l, rfl, ho, hp, _, hb⟩
  rw [hl] at hp
  obtain rfl : l = [] := List.Perm.eq_nil hp
  obtain ⟨a, c, rfl⟩ := own_slice ho
  exact ⟨a, c, rfl, hh.below hb⟩
theorem SB.put (h : SB w0 w p n A g) (k : Key) (m : Int) (v : ByteArray) (x : Int) (A' : AbS) (hl : (getR A.rows k).length ≤ 100) (hx : putE (getR A.rows k) m = x) (hA : stepA A ⟨0, 0, k, m, v⟩ = A') : Calls Tryz.prog 27 #[.pointer (some ⟨p, 0, none⟩), .agg #[.int .i64 k.acc, .int .i64 k.ast], .int .i64 m, .string v] w fun e w' => e = .returned (errV x) ∧ SB w0 w' p n A' g := by
  subst hx hA
  obtain ⟨s, rfl, rfl, h3, h4, h5, h6, h7, h8, h9⟩ := h
  have hg : getR s.rows k = getR A.rows k := getR_perm h4.rows h5 k
  refine (putS_calls s k m v w h3 (by rw [hg]; omega)).mono ?_
  rintro e w' ⟨s', rfl, hq⟩
  refine ⟨by rw [hg], s', hq.ep, hq.en, hq.at_, h4.put h5 ⟨rfl, rfl, rfl, rfl⟩ hq, ?_, fun i hi => (hq.new i hi).elim (h6 i) (fun h => Nat.le_trans h7.size h), h7.trans (hq.but.to_below h6 h7.size), h8.but hq.but h9, fun hi => (hq.new _ hi).elim h9 (fun h => by have := h8.lt; omega)⟩
  unfold stepA
  exact putR_keys h5
theorem SB.open_ (h : SB w0 w p n A g) (m : Int) (hbg : A.bg ≤ 100) (x : Int) (A' : AbS) (hx : (A.bg : Int) + 1 = x) (hA : stepA A ⟨0, 4, ⟨0, 0⟩, m, ⟨#[]⟩⟩ = A') : Calls Tryz.prog 32 #[.pointer (some ⟨p, 0, none⟩), .int .i64 m] w fun e w' => e = .returned (.int .i64 x) ∧ SB w0 w' p n A' g := by
  subst hx hA
  obtain ⟨s, rfl, rfl, h3, h4, h5, h6, h7, h8, h9⟩ := h
  refine (openS_calls s m w h3 (by rw [h4.bg]; omega)).mono ?_
  rintro e w' ⟨s', rfl, hq, hR, hb⟩
  refine ⟨by rw [h4.bg], s', hq.ep, hq.en, hq.at_, ⟨by rw [hq.erows]; exact h4.rows, ?_, ?_⟩, h5, fun i hi => (hq.new i hi).elim (h6 i) (fun h => Nat.le_trans h7.size h), h7.trans (hq.but.to_below h6 h7.size), h8.but hq.but h9, fun hi => (hq.new _ hi).elim h9 (fun h => by have := h8.lt; omega)⟩
  · show s'.R = A.R ++ [((A.bg : Int) + 1, m)]
    rw [hR, h4.R, h4.bg]
  · show s'.bg = A.bg + 1
    rw [hb, h4.bg]
theorem SB.close (h : SB w0 w p n A g) (r : Int) (hr : wfI r) (x : Bool) (A' : AbS) (hx : (mget A.R r).isSome = x) (hA : stepA A ⟨0, 5, ⟨0, 0⟩, r, ⟨#[]⟩⟩ = A') : Calls Tryz.prog 33 #[.pointer (some ⟨p, 0, none⟩), .int .i64 r] w fun e w' => e = .returned (.bool x) ∧ SB w0 w' p n A' g := by
  subst hx hA
  obtain ⟨s, rfl, rfl, h3, h4, h5, h6, h7, h8, h9⟩ := h
  refine (closeS_calls s r w h3 hr).mono ?_
  rintro e w' ⟨s', rfl, hq, hR, hb⟩
  refine ⟨by rw [h4.R], s', hq.ep, hq.en, hq.at_, ⟨by rw [hq.erows]; exact h4.rows, ?_, ?_⟩, h5, fun i hi => (hq.new i hi).elim (h6 i) (fun h => Nat.le_trans h7.size h), h7.trans (hq.but.to_below h6 h7.size), h8.but hq.but h9, fun hi => (hq.new _ hi).elim h9 (fun h => by have := h8.lt; omega)⟩
  · show s'.R = mdel A.R r
    rw [hR, h4.R]
  · show s'.bg = A.bg
    rw [hb, h4.bg]
theorem SB.oldest (h : SB w0 w p n A g) (m x : Int) (hx : minL m A.R = x) : Calls Tryz.prog 34 #[.pointer (some ⟨p, 0, none⟩), .int .i64 m] w fun e w' => e = .returned (.int .i64 x) ∧ SB w0 w' p n A g := by
  subst hx
  have hh := h
  obtain ⟨s, rfl, rfl, h3, h4, h5, h6, h7, h8, h9⟩ := h
  refine (oldestS_calls s m w h3).mono ?_
  rintro e w' ⟨rfl, hb⟩
  exact ⟨by rw [h4.R], hh.below hb⟩
theorem SB.prune (h : SB w0 w p n A g) (k : Key) (m x : Int) (A' : AbS) (hx : pruneN (getR A.rows k) (minL m A.R) = x) (hA : stepA A ⟨0, 7, k, m, ⟨#[]⟩⟩ = A') : Calls Tryz.prog 35 #[.pointer (some ⟨p, 0, none⟩), .agg #[.int .i64 k.acc, .int .i64 k.ast], .int .i64 m] w fun e w' => e = .returned (.int .i64 x) ∧ SB w0 w' p n A' g := by
  subst hx hA
  obtain ⟨s, rfl, rfl, h3, h4, h5, h6, h7, h8, h9⟩ := h
  refine (pruneS_calls s k m w h3).mono ?_
  rintro e w' ⟨s', rfl, hq⟩
  rw [h4.R] at hq
  refine ⟨by rw [h4.R, getR_perm h4.rows h5], s', hq.ep, hq.en, hq.at_, ⟨?_, hq.eR.trans h4.R, hq.ebg.trans h4.bg⟩, prR_keys h5, fun i hi => (hq.new i hi).elim (h6 i) (fun h => Nat.le_trans h7.size h), h7.trans (hq.but.to_below h6 h7.size), h8.but hq.but h9, fun hi => (hq.new _ hi).elim h9 (fun h => by have := h8.lt; omega)⟩
  show s'.rows.Perm (prR A.rows k (minL m A.R))
  rw [hq.erows]
  exact prR_perm h4.rows h5
theorem SB.versions (h : SB w0 w p n A g) (x : Nat) (hl : total A.rows = x) (hx : x ≤ 1000) : Calls Tryz.prog 16 #[.pointer (some ⟨p, 0, none⟩)] w fun e w' => e = .returned (.int .i64 x) ∧ SB w0 w' p n A g := by
  subst hl
  have hh := h
  obtain ⟨s, rfl, rfl, h3, h4, h5, h6, h7, h8, h9⟩ := h
  have hv : lens s.chs = total A.rows := by rw [lens_rows, total_perm h4.rows]
  refine (versionsS_calls s w h3 (by rw [hv]; omega)).mono ?_
  rintro e w' ⟨rfl, hb⟩
  exact ⟨by rw [hv], hh.below hb⟩
theorem SB.at_ (h : SB w0 w p n A g) (k : Key) (m : Int) (v : ByteArray) (ok : Bool) (hv : atV (getR A.rows k) m = v) (hok : decide (0 < leN (getR A.rows k) m) = ok) : Calls Tryz.prog 31 #[.pointer (some ⟨p, 0, none⟩), .agg #[.int .i64 k.acc, .int .i64 k.ast], .int .i64 m] w fun e w' => e = .returned (.tuple #[.string v, .bool ok]) ∧ SB w0 w' p n A g := by
  subst hv hok
  have hh := h
  obtain ⟨s, rfl, rfl, h3, h4, h5, h6, h7, h8, h9⟩ := h
  refine (atS_calls s k m w h3).mono ?_
  rintro e w' ⟨rfl, hb⟩
  exact ⟨by rw [getR_perm h4.rows h5], hh.below hb⟩
theorem SB.last (h : SB w0 w p n A g) (k : Key) (v : ByteArray) (m : Int) (ok : Bool) (hv : lastV (getR A.rows k) = v) (hm : lastM (getR A.rows k) = m) (hok : decide (0 < (getR A.rows k).length) = ok) : Calls Tryz.prog 28 #[.pointer (some ⟨p, 0, none⟩), .agg #[.int .i64 k.acc, .int .i64 k.ast]] w fun e w' => e = .returned (.tuple #[.string v, .int .i64 m, .bool ok]) ∧ SB w0 w' p n A g := by
  subst hv hm hok
  have hh := h
  obtain ⟨s, rfl, rfl, h3, h4, h5, h6, h7, h8, h9⟩ := h
  refine (lastS_calls s k w h3).mono ?_
  rintro e w' ⟨rfl, hb⟩
  exact ⟨by rw [getR_perm h4.rows h5], hh.below hb⟩
end
end Go.Proofs.YtflkddllofeiaaaGreatDoor
