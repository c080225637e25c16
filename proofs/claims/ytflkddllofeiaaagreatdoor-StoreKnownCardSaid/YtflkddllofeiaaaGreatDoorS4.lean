/- Store: Put. -/
import Derived.Test.YtflkddllofeiaaaGreatDoorS3
namespace Go.Proofs.YtflkddllofeiaaaGreatDoor
set_option linter.unusedSimpArgs false
set_option linter.unusedVariables false
open Go.RowKit Go.MapKept Go.ChangeMaps Go.Maps

theorem grown_but {w w' : World} {b : Nat} (h : w.grownBy w' (some b)) : But w w' (fun i => i = b) := ⟨h.os, h.tape, h.output, h.size, fun k hk hn => h.block k hk (fun e => hn (Option.some.inj e))⟩
section
variable {w w' w1 w2 : World} {s : StV} {S : Nat → Prop}
theorem StAt.map_at (h : StAt w s) (k : Key) : MapT eK eP w (s.map k) ((s.S[s.sh k]'(h.sh_lt' k)).map (fun q => (q.1, q.2.p))) := by
  rw [h.map_eq]
  exact h.maps _ (h.sh_lt k) (h.sh_lt' k)
theorem StAt.map_mem (h : StAt w s) (k : Key) : s.map k ∈ s.ms := by rw [h.map_eq]; exact List.getElem_mem _
theorem kp_none {l : List (Key × Ch)} {k : Key} (h : ∀ q ∈ l, q.1 ≠ k) : ∀ q ∈ l.map (fun q => (q.1, q.2.p)), q.1 ≠ k := fun q hq => by
  obtain ⟨x, hx, rfl⟩ := List.mem_map.1 hq
  exact h x hx
theorem StAt.look_some (h : StAt w s) {k : Key} {a b : List (Key × Ch)} {c : Ch} (hs : s.S[s.sh k]'(h.sh_lt' k) = a ++ (k, c) :: b) (hno : ∀ q ∈ a ++ b, q.1 ≠ k) (o : Bool) :
    (Instr.lookup 59 (.map (some (s.map k))) (.agg #[.int .i64 k.acc, .int .i64 k.ast]) o).run Tryz.prog w = .ok (if o then .tuple #[.pointer (some ⟨c.p, 0, none⟩), .bool true] else .pointer (some ⟨c.p, 0, none⟩)) w := by
  have h1 := (h.map_at k).look (P := Tryz.prog) (keyE_key w) (fun _ _ => trivial) (x := k) trivial Tryz.underlying59 (z := .pointer none) (by kernel_rfl) o
  have h2 : mget ((s.S[s.sh k]'(h.sh_lt' k)).map (fun q => (q.1, q.2.p))) k = some c.p := by
    rw [hs, List.map_append, List.map_cons]
    exact mget_some (kp_none (fun q hq => hno q (List.mem_append_left _ hq)))
  rw [h2] at h1
  exact h1
theorem StAt.look_none (h : StAt w s) {k : Key} (hno : ∀ q ∈ s.S[s.sh k]'(h.sh_lt' k), q.1 ≠ k) (o : Bool) :
    (Instr.lookup 59 (.map (some (s.map k))) (.agg #[.int .i64 k.acc, .int .i64 k.ast]) o).run Tryz.prog w = .ok (if o then .tuple #[.pointer none, .bool false] else .pointer none) w := by
  have h1 := (h.map_at k).look (P := Tryz.prog) (keyE_key w) (fun _ _ => trivial) (x := k) trivial Tryz.underlying59 (z := .pointer none) (by kernel_rfl) o
  rw [mget_none (kp_none hno)] at h1
  exact h1
/-- A chain put in under a new key. -/
theorem StAt.added (h : StAt w s) {k : Key} {P Q : List (Key × Ch)} {c' : Ch} (hc : s.chs = P ++ Q) (hf : (s.S.set (s.sh k) (s.S[s.sh k]'(h.sh_lt' k) ++ [(k, c')])).flatten = P ++ (k, c') :: Q) (hno : ∀ q ∈ P ++ Q, q.1 ≠ k)
    (hb : But w w' (fun i => i = s.map k)) (hm : MapT eK eP w' (s.map k) ((s.S[s.sh k]'(h.sh_lt' k)).map (fun q => (q.1, q.2.p)) ++ [(k, c'.p)])) (hch : Chn w' c'.p c'.sv c'.L) (hn : ∀ i, c'.of i → w.heap.size ≤ i) :
    StAt w' { s with S := s.S.set (s.sh k) (s.S[s.sh k]'(h.sh_lt' k) ++ [(k, c')]) } ∧ ∀ i, StV.of { s with S := s.S.set (s.sh k) (s.S[s.sh k]'(h.sh_lt' k) ++ [(k, c')]) } i → s.of i ∨ w.heap.size ≤ i := by
  have hchs : StV.chs { s with S := s.S.set (s.sh k) (s.S[s.sh k]'(h.sh_lt' k) ++ [(k, c')]) } = P ++ (k, c') :: Q := hf
  have hold : ∀ q ∈ P ++ Q, q ∈ s.chs := fun q hq => by rw [hc]; exact hq
  have hmid : ∀ q, q ∈ P ++ (k, c') :: Q → q = (k, c') ∨ q ∈ P ++ Q := fun q hq => by
    rcases List.mem_append.1 hq with hq | hq
    · exact .inr (List.mem_append_left _ hq)
    · rcases List.mem_cons.1 hq with hq | hq
      · exact .inl hq
      · exact .inr (List.mem_append_right _ hq)
  have hj := h.sh_lt' k
  have hother : ∀ q ∈ P ++ Q, Chn w' q.2.p q.2.sv q.2.L := fun q hq => (h.chs q (hold q hq)).but hb (fun i hi e => (h.ch_ne (hold q hq) hi).2.2.2 (e ▸ h.map_mem k))
  have hmk := h.map_at k
  refine ⟨⟨h.blk.but hb (blk_map_ne h.blk hmk), h.row.but hb (blk_map_ne h.row hmk), h.n1, by rw [List.length_set]; exact h.len, fun i h1 h2 => ?_, h.msn, fun q hq => ?_, fun i hi q hq => ?_, ?_, ?_, h.rd.but hb (fun e => h.mrn (e ▸ h.map_mem k)), h.rdn, h.rdk, h.mrn⟩, fun i hi => ?_⟩
  · have h2' : i < s.S.length := by simpa using h2
    by_cases he : i = s.sh k
    · subst he
      rw [List.getElem_set_self, List.map_append, ← h.map_eq]
      exact hm
    · rw [List.getElem_set_ne (Ne.symm he)]
      refine (h.maps i h1 h2').but hb (fun e => he ?_)
      rw [h.map_eq] at e
      exact (List.getElem_inj h.msn).1 e
  · rw [hchs] at hq
    rcases hmid q hq with rfl | hq
    · exact hch
    · exact hother q hq
  · have hi' : i < s.S.length := by simpa using hi
    rw [List.getElem_set] at hq
    split at hq
    · rename_i e
      subst e
      rcases List.mem_append.1 hq with hq | hq
      · exact h.shd _ hj q hq
      · rw [List.mem_singleton.1 hq]; rfl
    · exact h.shd i hi' q hq
  · have hkn := h.kn
    rw [hc] at hkn
    rw [hchs, List.map_append, List.map_cons, nodup_mid, ← List.map_append]
    exact ⟨fun hx => by obtain ⟨q, hq, e⟩ := List.mem_map.1 hx; exact hno q hq e, hkn⟩
  · have hap := h.apart
    rw [hc] at hap
    rw [hchs, List.pairwise_middle (fun {_ _} h => apart_symm h), List.pairwise_cons]
    exact ⟨fun q hq i hi hqi => by have h1 := hn i hi; have h2 := (h.chs q (hold q hq)).of_lt hqi; omega, hap⟩
  · rcases hi with hi | hi | hi | hi | ⟨q, hq, hi⟩
    · exact .inl (.inl hi)
    · exact .inl (.inr (.inl hi))
    · exact .inl (.inr (.inr (.inl hi)))
    · exact .inl (.inr (.inr (.inr (.inl hi))))
    · rw [hchs] at hq
      rcases hmid q hq with rfl | hq
      · exact .inr (hn i hi)
      · exact .inl (.inr (.inr (.inr (.inr ⟨q, hold q hq, hi⟩))))
end
/-- What Put answers and leaves. -/
structure PutS (w w' : World) (s s' : StV) (k : Key) (n : Int) (v : ByteArray) : Prop where
  at_ : StAt w' s'
  en : s'.n = s.n
  ep : s'.p = s.p
  eR : s'.R = s.R
  ebg : s'.bg = s.bg
  yes : mayPut (getR s.rows k) n = true → s'.rows.Perm (mput s.rows k (getR s.rows k ++ [⟨n, v⟩]))
  no : mayPut (getR s.rows k) n = false → s'.rows = s.rows
  but : But w w' s.of
  new : ∀ i, s'.of i → s.of i ∨ w.heap.size ≤ i
def PutSQ (w : World) (s : StV) (k : Key) (n : Int) (v : ByteArray) (e : Ending) (w' : World) : Prop := ∃ s', e = .returned (errV (putE (getR s.rows k) n)) ∧ PutS w w' s s' k n v
set_option maxRecDepth 100000 in
set_option maxHeartbeats 2000000 in
theorem putS_calls (s : StV) (k : Key) (n : Int) (v : ByteArray) (w : World) (h : StAt w s) (hlen : (getR s.rows k).length < 9382499223000) :
    Calls Tryz.prog 27 #[.pointer (some ⟨s.p, 0, none⟩), .agg #[.int .i64 k.acc, .int .i64 k.ast], .int .i64 n, .string v] w (PutSQ w s k n v) := by
  have hb0 : Below w.heap.size w (w.alloc (.cells #[.int .i64 k.acc, .int .i64 k.ast] 33)) := (Below.refl _ _).alloc (Nat.le_refl _) _
  have hB := Blk.new w 33 #[.int .i64 k.acc, .int .i64 k.ast]
  obtain ⟨W, hW⟩ : ∃ X, w.alloc (.cells #[.int .i64 k.acc, .int .i64 k.ast] 33) = X := ⟨_, rfl⟩
  obtain ⟨g, hg⟩ : ∃ g, w.heap.size = g := ⟨_, rfl⟩
  rw [hW] at hb0 hB
  have h1 := h.below hb0
  rw [hg] at hB
  have q0 : W.cell? ⟨g, 0, none⟩ = some (.int .i64 k.acc) := hB.cell 0
  have q1 : W.cell? ⟨g, 1, none⟩ = some (.int .i64 k.ast) := hB.cell 1
  have hsh := shardS_calls s k W h1
  have H := Lib.hid h
  have HB0 := Lib.hid hb0
  have HB := Lib.hid hB
  have HSH := Lib.hid hsh
  have HW := Lib.hid hW
  have HG := Lib.hid hg
  have HL := Lib.hid hlen
  clear h hb0 hB hsh hW hg h1 hlen
  go_enter Tryz.func27, Tryz.ntmps27
  go_wp2_with (fail)
  rw [HW.out, HG.out]
  go_wp2_with (fail)
  refine HSH.out.mono ?_
  rintro e w2 ⟨rfl, hb2⟩
  have hb12 := HB0.out.trans (hb2.mono HB0.out.size)
  have h2 := H.out.below hb12
  have hB2 := HB.out.below hb2 HB.out.lt
  have q0 : w2.cell? ⟨g, 0, none⟩ = some (.int .i64 k.acc) := hB2.cell 0
  have q1 : w2.cell? ⟨g, 1, none⟩ = some (.int .i64 k.ast) := hB2.cell 1
  rcases h2.cases k with ⟨a, c, b, P, Q, hs, hc, hf, hn1, hn2⟩ | ⟨P, Q, hc, hf, hn1, hn2⟩
  · -- the key is there
    have hlook := h2.look_some hs hn1 true
    simp only [if_true] at hlook
    have hmem : (k, c) ∈ s.chs := by rw [hc]; simp
    have hrt := fun c' : Ch => rows_turned (c := c) (c' := c') hn2
    have hrows : s.rows = (P ++ (k, c) :: Q).map rowOf := by unfold StV.rows; rw [hc]
    have hget : getR s.rows k = c.L := by rw [hrows]; exact (hrt c).2
    have hput := put_calls n v w2 (h2.chs _ hmem) (by have := HL.out; rw [hget] at this; exact this)
    have hfin : ∀ w3 sv', Chn w3 c.p sv' (putL c.L ⟨n, v⟩) → But w2 w3 (OfC c.p c.sv) → (∀ b, sv'.ownBlock = some b → c.sv.ownBlock = some b ∨ w2.heap.size ≤ b) → ∃ s', PutS w w3 s s' k n v := by
      intro w3 sv' hch hb3 hnw
      have hnn : ∀ i, (Ch.mk c.p sv' (putL c.L ⟨n, v⟩)).of i → c.of i ∨ w2.heap.size ≤ i := fun i hi => by
        rcases hi with hi | hi
        · exact .inl (.inl hi)
        · exact (hnw i hi).imp (fun h => .inr h) (fun h => h)
      obtain ⟨t1, t2⟩ := h2.turned (c' := ⟨c.p, sv', putL c.L ⟨n, v⟩⟩) hs hc (hf _) hb3 rfl hch hnn
      have hr : StV.rows { s with S := s.S.set (s.sh k) (a ++ (k, ⟨c.p, sv', putL c.L ⟨n, v⟩⟩) :: b) } = mput s.rows k (putL c.L ⟨n, v⟩) := by
        unfold StV.rows StV.chs
        rw [hf, (hrt ⟨c.p, sv', putL c.L ⟨n, v⟩⟩).1, ← hrows]
        rfl
      refine ⟨_, t1, rfl, rfl, rfl, rfl, fun hm => ?_, fun hm => ?_, ?_, fun i hi => (t2 i hi).imp (fun h => h) (fun h => Nat.le_trans hb12.size h)⟩
      · rw [hr, hget]
        rw [hget] at hm
        unfold putL
        rw [if_pos hm]
      · rw [hr]
        rw [hget] at hm
        unfold putL
        rw [if_neg (by rw [hm]; decide), hrows, ← (hrt c).1]
      · exact (But.of_below hb12 s.of).trans hb3 (fun i _ hi => .inr (.inr (.inr (.inr ⟨_, hmem, hi⟩))))
    have HPUT := Lib.hid hput
    have HFIN := Lib.hid hfin
    have HGET := Lib.hid hget
    have hpe : putE c.L n = 0 ∨ putE c.L n = 1 := by unfold putE; split; exact .inl rfl; exact .inr rfl
    have HPE := Lib.hid hpe
    clear hput hfin hget hs hc hf hn1 hn2 hmem hrt hrows h2 hB2 hb2 hb12 hpe
    go_wp2_with (fail)
    refine HPUT.out.mono ?_
    rintro e w3 ⟨sv', rfl, hch, hb3, hnw⟩
    have hres := HFIN.out w3 sv' hch hb3 hnw
    have HRES := Lib.hid hres
    clear hch hb3 hnw hres
    rcases HPE.out with hp | hp
    · have hfin2 : PutSQ w s k n v (.returned .nilIface) w3 := by
        obtain ⟨s', hs'⟩ := HRES.out
        refine ⟨s', ?_, hs'⟩
        rw [HGET.out, hp]; rfl
      have HF := Lib.hid hfin2
      rw [hp, show errV 0 = .nilIface from rfl]
      clear hp hfin2
      go_wp2
      go_ret
      exact HF.out
    · have hfin2 : PutSQ w s k n v (.returned (.iface 100 (.int .i64 1))) w3 := by
        obtain ⟨s', hs'⟩ := HRES.out
        refine ⟨s', ?_, hs'⟩
        rw [HGET.out, hp]; rfl
      have HF := Lib.hid hfin2
      rw [hp, show errV 1 = .iface 100 (.int .i64 1) from rfl]
      clear hp hfin2
      go_wp2
      go_ret
      exact HF.out
  · -- a new key
    have hlook := h2.look_none hn1 true
    simp only [if_true] at hlook
    have hrows : s.rows = (P ++ Q).map rowOf := by unfold StV.rows; rw [hc]
    have hrt := fun c' : Ch => rows_none (c' := c') hn2
    have hget : getR s.rows k = [] := by rw [hrows]; exact (hrt ⟨0, .slice none 0 0, []⟩).2
    have hnewc := newChain_calls w2
    have hfin : ∀ (w3 w4 : World) (sv' : Value), Below w2.heap.size w2 w3 → Chn w4 w2.heap.size sv' (putL [] ⟨n, v⟩) → But w3 w4 (OfC w2.heap.size (.slice none 0 0)) → (∀ b, sv'.ownBlock = some b → (Value.slice none 0 0).ownBlock = some b ∨ w3.heap.size ≤ b) → w2.heap.size < w3.heap.size →
        (∃ s', mayPut (getR s.rows k) n = false → PutS w w4 s s' k n v) ∧ w4.cell? ⟨g, 0, none⟩ = some (.int .i64 k.acc) ∧ w4.cell? ⟨g, 1, none⟩ = some (.int .i64 k.ast) ∧
        ∃ w5, (Instr.mapUpdate 59 (.map (some (s.map k))) (.agg #[.int .i64 k.acc, .int .i64 k.ast]) (.pointer (some ⟨w2.heap.size, 0, none⟩))).run Tryz.prog w4 = .ok () w5 ∧ (mayPut (getR s.rows k) n = true → ∃ s', PutS w w5 s s' k n v) := by
      intro w3 w4 sv' hb3 hch hb4 hnw hlt
      have hb24 : Below w2.heap.size w2 w4 := hb3.trans (hb4.to_below (fun i hi => by
        rcases hi with rfl | hi
        · exact Nat.le_refl _
        · cases hi) hb3.size)
      have h4 := h2.below hb24
      have hB4 := hB2.below hb24 hB2.lt
      refine ⟨⟨s, fun hm => ⟨h4, rfl, rfl, rfl, rfl, (fun h => by rw [hm] at h; cases h), fun _ => rfl, But.of_below (hb12.trans (hb24.mono hb12.size)) _, fun i hi => .inl hi⟩⟩, hB4.cell 0, hB4.cell 1, ?_⟩
      obtain ⟨w5, hrun, hm5, hg5, hs5⟩ := (h4.map_at k).put (P := Tryz.prog) (keyE_key w4) (fun _ _ => trivial) (x := k) trivial Tryz.underlying59 w2.heap.size
      refine ⟨w5, hrun, fun hm => ?_⟩
      have hb5 := grown_but hg5
      rw [mput_none (kp_none hn1)] at hm5
      have hch5 : Chn w5 w2.heap.size sv' (putL [] ⟨n, v⟩) := hch.but hb5 (fun i hi e => by
        subst e
        rcases hi with hi | hi
        · exact blk_map_ne hch.blk (h4.map_at k) hi.symm
        · exact own_map_ne hch.row (h4.map_at k) hi)
      have hnn : ∀ i, (Ch.mk w2.heap.size sv' (putL [] ⟨n, v⟩)).of i → w2.heap.size ≤ i := fun i hi => by
        rcases hi with rfl | hi
        · exact Nat.le_refl _
        · rcases hnw i hi with h | h
          · cases h
          · exact Nat.le_trans hb3.size h
      obtain ⟨t1, t2⟩ := h2.added (c' := ⟨w2.heap.size, sv', putL [] ⟨n, v⟩⟩) hc (hf _) hn2 ((But.of_below hb24 _).trans hb5 (fun _ _ h => h)) hm5 hch5 hnn
      refine ⟨_, t1, ?_, rfl, rfl, rfl, fun _ => ?_, (fun h => by rw [hm] at h; cases h), ?_, fun i hi => (t2 i hi).imp (fun h => h) (fun h => Nat.le_trans hb12.size h)⟩
      · rfl
      · have hp : putL ([] : List VerS) ⟨n, v⟩ = [] ++ [⟨n, v⟩] := by
          rw [hget] at hm
          unfold putL
          rw [if_pos hm]
        rw [hget, hrows, ← hp]
        unfold StV.rows StV.chs
        rw [hf]
        exact (hrt _).1
      · exact (But.of_below (hb12.trans (hb24.mono hb12.size)) s.of).trans hb5 (fun i _ hi => .inr (.inr (.inr (.inl (hi ▸ h2.map_mem k)))))
    have HNEW := Lib.hid hnewc
    have HFIN := Lib.hid hfin
    have HGET := Lib.hid hget
    have hpe : (putE ([] : List VerS) n = 0 ∧ mayPut ([] : List VerS) n = true) ∨ (putE ([] : List VerS) n = 1 ∧ mayPut ([] : List VerS) n = false) := by
      unfold putE
      cases hm : mayPut ([] : List VerS) n
      · exact .inr ⟨rfl, rfl⟩
      · exact .inl ⟨rfl, rfl⟩
    have HPE := Lib.hid hpe
    clear hnewc hfin hget hc hf hn1 hn2 hrt hrows h2 hB2 hb2 hb12 hpe
    go_wp2_with (fail)
    refine HNEW.out.mono ?_
    rintro e w3 ⟨rfl, hch, hb3⟩
    have hput := put_calls n v w3 hch (by simp)
    have hlt3 : w2.heap.size < w3.heap.size := hch.blk.lt
    have HPUT := Lib.hid hput
    have HB3 := Lib.hid hb3
    have HLT3 := Lib.hid hlt3
    clear hput hb3 hch hlook hlt3
    go_wp2_with (fail)
    refine HPUT.out.mono ?_
    rintro e w4 ⟨sv', rfl, hch, hb4, hnw⟩
    obtain ⟨hno, r0, r1, w5, hrun, hyes⟩ := HFIN.out w3 w4 sv' HB3.out hch hb4 hnw HLT3.out
    have HNO := Lib.hid hno
    have HYES := Lib.hid hyes
    clear hno hyes hch hb4 hnw
    rcases HPE.out with ⟨hp, hm⟩ | ⟨hp, hm⟩
    · have hfin2 : PutSQ w s k n v (.returned .nilIface) w5 := by
        obtain ⟨s', hs'⟩ := HYES.out (by rw [HGET.out]; exact hm)
        refine ⟨s', ?_, hs'⟩
        rw [HGET.out, hp]; rfl
      have HF := Lib.hid hfin2
      rw [hp, show errV 0 = .nilIface from rfl]
      clear hp hm hfin2
      go_wp2
      go_ret
      exact HF.out
    · have hfin2 : PutSQ w s k n v (.returned (.iface 100 (.int .i64 1))) w4 := by
        obtain ⟨s', hs'⟩ := HNO.out
        refine ⟨s', ?_, hs' (by rw [HGET.out]; exact hm)⟩
        rw [HGET.out, hp]; rfl
      have HF := Lib.hid hfin2
      rw [hp, show errV 1 = .iface 100 (.int .i64 1) from rfl]
      clear hp hm hfin2 hrun
      go_wp2
      go_ret
      exact HF.out
end Go.Proofs.YtflkddllofeiaaaGreatDoor
