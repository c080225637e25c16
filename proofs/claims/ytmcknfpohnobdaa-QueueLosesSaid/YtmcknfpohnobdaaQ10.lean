/- QueueServes: the law's walk. -/
import Derived.Test.YtmcknfpohnobdaaQ9
import Derived.Deep.Upon
import Derived.Deep.DeepCutAuto
import Derived.Deep.CutBlock
import Derived.Deep.QuietTactic
namespace Go.Proofs.Ytmcknfpohnobdaa
set_option linter.unusedSimpArgs false
set_option linter.unusedVariables false
open Go.RowKit Go.MapKept Go.ChangeMaps Go.Maps

section
variable {P : Program} (w : World)
theorem wpList_append_none {ops : Array Oper} {rest : List Oper} {o : Oper} {a : Act} {Q : Exit → Act → World → Prop} (hgd : o.guard = none) (s x : Operand) (t : TypeId)
    (ho : o.op = .call { callee := .builtin .append, args := #[s, x], argTypes := #[t, t] }) (e : TypeId) (i : TypeInfo) (ht : P.underlying t = some (.slice e)) (hi : P.info? e = some i)
    (A : Option Addr) (n c : Nat) (hs : a.eval s = .slice A n c) (hle : n ≤ c) (hx : a.eval x = .slice none 0 0)
    (h : wpList P ops Q rest (a.put o.dst (.slice A n c)) w) : wpList P ops Q (o :: rest) a w := by
  have hr := run_append_nothing (P := P) w t t o.type e i ht hi A n c hle (.slice none 0 0) ⟨.inl ⟨e, ht⟩, fun w' => by simp [Builtin.lenOf], by simp [Builtin.firstCells], by simp [Builtin.firstCells], by simp, by simp⟩
  refine wpList_plain hgd fun K hK => ?_
  have hgo := hK _ _ h
  have hex : (execOp a.eval o).run P w = .ok (.value (.slice A n c)) w := by simp [execOp, ho, resolve, invoke, builtin, hs, hx, hr, Result.andThen]
  unfold Oper.wp
  rw [hex]
  exact hgo
end
theorem reads_cells {w : World} {B s n : Nat} {ad : Addr} {xs : List Value} (h : Reads w B s (some ad) n xs) : ∀ j u, xs[j]? = some u → w.cell? (ad.add j) = some u := by
  intro j u hu
  rcases Nat.eq_zero_or_pos n with h0 | h0
  · have h1 := h.1
    rw [h0, Nat.zero_mul] at h1
    rw [List.eq_nil_of_length_eq_zero h1] at hu
    simp at hu
  · obtain ⟨ad2, e, _, h2⟩ := h.2 h0
    cases e
    exact h2 j u hu
theorem grown_own {w w2 : World} {v : Value} (hg : w.grownBy w2 v.ownBlock) : But w w2 (fun i => v.ownBlock = some i) := (But.refl w (fun i => v.ownBlock = some i)).grown hg (fun i _ e => e)
theorem tq_at {w : World} {B : Nat} {A : Option Addr} {ts : List TQ} (h : Reads w B 1 A ts.length (ts.flatMap TQ.cs)) {k : Nat} (hk : k < ts.length) : ∃ ad, A = some ad ∧ ad.block < B ∧ w.cell? (ad.add k) = some (.slice ts[k].A ts[k].keys.length ts[k].c) := by
  obtain ⟨ad, e, hb, h0, _⟩ := Reads.elem TQ.len h hk
  have := h0 _ rfl
  rw [Nat.mul_one] at this
  exact ⟨ad, e, hb, this⟩
theorem opq_at {w : World} {B : Nat} {A : Option Addr} {es : List OpQ} (h : Reads w B 4 A es.length (es.flatMap OpQ.cs)) {k : Nat} (hk : k < es.length) : ∃ ad, A = some ad ∧ ad.block < B ∧ w.cell? ⟨(ad.add (k * 4)).block, (ad.add (k * 4)).off + 2, none⟩ = some (.int .i64 es[k].id) ∧ w.cell? ⟨(ad.add (k * 4)).block, (ad.add (k * 4)).off + 3, none⟩ = some (.slice es[k].A es[k].keys.length es[k].c) := by
  obtain ⟨ad, e, hb, _, h1⟩ := Reads.elem OpQ.len h hk
  exact ⟨ad, e, hb, h1 2 _ (by omega) rfl, h1 3 _ (by omega) rfl⟩
theorem own_cap7 {w : World} {base : Nat} {e : TypeId} {size n c : Nat} {A : Option Addr} {xs : List Value} (h : w.ownsRow base e size (.slice A n c) n xs) : n ≤ c := by
  rcases h.2 with ⟨h, _⟩ | ⟨g, cap, cur, h, _, _, hn, _⟩
  · injection h with _ h1 h2; omega
  · injection h with _ _ h2; omega
theorem grow_first {v v' b c : Value} {w w' : World} (hat : v'.ownBlock = v.ownBlock ∨ v'.ownBlock = some w.heap.size) (hlt : ∀ {k}, v'.ownBlock = some k → k < w'.heap.size) : ∀ i, Own3 v' b c i → Own3 v b c i ∨ (w.heap.size ≤ i ∧ i < w'.heap.size) := by
  intro i hi
  rcases hi with h | h
  · rcases hat with h1 | h1
    · exact .inl (.inl (h1 ▸ h))
    · refine .inr ⟨?_, hlt h⟩
      rw [h1] at h; cases h; exact Nat.le_refl _
  · exact .inl (.inr h)
def allK (ts : List TQ) : List Key := ts.flatMap (·.keys)
theorem allK_snoc (ts : List TQ) (x : TQ) : allK (ts ++ [x]) = allK ts ++ x.keys := by unfold allK; simp
theorem keys_one (l : List Key) : ∀ u ∈ keysC l, u.oneCell' = true := by
  intro u hu
  obtain ⟨q, _, hq⟩ := List.mem_flatMap.1 hu
  simp only [Key.cs, List.mem_cons, List.not_mem_nil, or_false] at hq
  rcases hq with rfl | rfl <;> rfl

theorem infoQSl : (Try.prog.info? 27).map (fun i => (i.zero, i.size, i.bytes)) = some (some (.slice none 0 0), 1, 24) := by kernel_rfl
theorem putN_in {L : List Ent} {room id : Int} (h : id ∈ L.map (·.id)) : putN L room id = 11 := by
  obtain ⟨e, he, q⟩ := List.mem_map.1 h
  exact if_pos ⟨e, he, q⟩
theorem putN_out {L : List Ent} {room id : Int} (h : id ∉ L.map (·.id)) (hl : (L.length : Int) < room) : putN L room id = 0 := by
  unfold putN
  rw [if_neg (fun ⟨e, he, q⟩ => h (List.mem_map.2 ⟨e, he, q⟩)), if_neg (by omega)]
structure PutsInv (p1 p2 n k : Nat) (a b : QV) (ids : List Int) (sets : List TQ) (w0 : World) : Prop where
  pa : a.p = p1
  pb : b.p = p2
  ra : a.room = n
  rb : b.room = n
  qi : a.L.map (·.id) = ids
  ids2 : b.L.map (·.id) = ids
  qs : sets.map (·.keys) = a.L.map (·.keys)
  keys2 : b.L.map (·.keys) = a.L.map (fun e => turnL e.keys)
  fa : ∀ e ∈ a.L, e.rdy = false ∧ e.tkn = false
  fb : ∀ e ∈ b.L, e.rdy = false ∧ e.tkn = false
  len : a.L.length ≤ k
  sin : ∀ t ∈ sets, KeysIn w0 w0.heap.size t.A t.c t.keys
section
variable {w0 : World} {p1 p2 n k : Nat} {a b : QV} {ids : List Int} {sets : List TQ} {t1 t2 : Int} {lv1 lv2 : Value} {L1 L2 : List Ent} {W1 W2 : List (Key × Nat)}
theorem PutsInv.idl (h : PutsInv p1 p2 n k a b ids sets w0) : ids.length = a.L.length := by rw [← h.qi, List.length_map]
theorem PutsInv.setl (h : PutsInv p1 p2 n k a b ids sets w0) : sets.length = a.L.length := by simpa using congrArg List.length h.qs
theorem PutsInv.lenb (h : PutsInv p1 p2 n k a b ids sets w0) : b.L.length = a.L.length := by simpa using congrArg List.length h.keys2
theorem PutsInv.same (h : PutsInv p1 p2 n k a b ids sets w0) (h1 : L1 = a.L) (h2 : L2 = b.L) : PutsInv p1 p2 n (k + 1) ⟨a.p, a.bi, a.bw, a.room, t1, lv1, L1, W1⟩ ⟨b.p, b.bi, b.bw, b.room, t2, lv2, L2, W2⟩ ids sets w0 := by
  subst h1 h2
  exact ⟨h.pa, h.pb, h.ra, h.rb, h.qi, h.ids2, h.qs, h.keys2, h.fa, h.fb, Nat.le_succ_of_le h.len, h.sin⟩
theorem PutsInv.more (h : PutsInv p1 p2 n k a b ids sets w0) {id : Int} {xA : Option Addr} {xs : List Key} {xc : Nat} (hk : KeysIn w0 w0.heap.size xA xc xs)
    (h1 : ∃ y : Ent, L1 = a.L ++ [y] ∧ y.id = id ∧ y.keys = xs ∧ y.rdy = false ∧ y.tkn = false ∧ y.tch = false) (h2 : ∃ y : Ent, L2 = b.L ++ [y] ∧ y.id = id ∧ y.keys = turnL xs ∧ y.rdy = false ∧ y.tkn = false ∧ y.tch = false) :
    PutsInv p1 p2 n (k + 1) ⟨a.p, a.bi, a.bw, a.room, t1, lv1, L1, W1⟩ ⟨b.p, b.bi, b.bw, b.room, t2, lv2, L2, W2⟩ (ids ++ [id]) (sets ++ [⟨xA, xs, xc⟩]) w0 := by
  obtain ⟨y, rfl, yi, yk, yr, yt, _⟩ := h1
  obtain ⟨z, rfl, zi, zk, zr, zt, _⟩ := h2
  refine ⟨h.pa, h.pb, h.ra, h.rb, ?_, ?_, ?_, ?_, fun e he => ?_, fun e he => ?_, ?_, fun t ht => ?_⟩
  · simp [h.qi, yi]
  · simp [h.ids2, zi]
  · simp [h.qs, yk]
  · simp [h.keys2, zk, yk]
  · rcases List.mem_append.1 he with he | he
    · exact h.fa e he
    · rw [List.mem_singleton.1 he]; exact ⟨yr, yt⟩
  · rcases List.mem_append.1 he with he | he
    · exact h.fb e he
    · rw [List.mem_singleton.1 he]; exact ⟨zr, zt⟩
  · have := h.len; simp; omega
  · rcases List.mem_append.1 ht with ht | ht
    · exact h.sin t ht
    · rw [List.mem_singleton.1 ht]; exact hk
end
section
variable {w0 w w' : World} {a b : QV} {S : Nat → Prop} {av iv sv v' : Value} {all : List Key} {ids : List Int} {sets : List TQ}
theorem QQ.put_reads {s n : Nat} {A : Option Addr} {xs : List Value} (h : QQ w0 w a b S) (hr : Reads w0 w0.heap.size s A n xs) : ∀ w', But w w' a.of → Reads w' w'.heap.size s A n xs := fun w' hb =>
  have hB := h.bel.trans (hb.to_below h.la h.bel.size)
  (hr.below hB).more hB.size
theorem own_nil {base : Nat} {e : TypeId} {size n c : Nat} {xs : List Value} (h : w.ownsRow base e size (.slice none n c) n xs) : n = 0 ∧ c = 0 := by
  rcases h.2 with ⟨h, _⟩ | ⟨g, cap, cur, h, _⟩
  · injection h with _ h1 h2; exact ⟨h1, h2⟩
  · injection h with h _; cases h
theorem grow_second {b : Value} (hat : v'.ownBlock = iv.ownBlock ∨ v'.ownBlock = some w.heap.size) (hlt : ∀ {k}, v'.ownBlock = some k → k < w'.heap.size) : ∀ i, Own3 av v' b i → Own3 av iv b i ∨ (w.heap.size ≤ i ∧ i < w'.heap.size) := by
  intro i hi
  rcases hi with h | h | h
  · exact .inl (.inl h)
  · rcases hat with h1 | h1
    · exact .inl (.inr (.inl (h1 ▸ h)))
    · refine .inr ⟨?_, hlt h⟩
      rw [h1] at h; cases h; exact Nat.le_refl _
  · exact .inl (.inr (.inr h))
theorem grow_third {b : Value} (hat : v'.ownBlock = sv.ownBlock ∨ v'.ownBlock = some w.heap.size) (hlt : ∀ {k}, v'.ownBlock = some k → k < w'.heap.size) : ∀ i, Own3 av b v' i → Own3 av b sv i ∨ (w.heap.size ≤ i ∧ i < w'.heap.size) := by
  intro i hi
  rcases hi with h | h | h
  · exact .inl (.inl h)
  · exact .inl (.inr (.inl h))
  · rcases hat with h1 | h1
    · exact .inl (.inr (.inr (h1 ▸ h)))
    · refine .inr ⟨?_, hlt h⟩
      rw [h1] at h; cases h; exact Nat.le_refl _
theorem Rows3.grow_i (h : Rows3 w0 w av iv sv all ids sets) {ids' : List Int} (hg : w.grownBy w' iv.ownBlock) (ho : w'.ownsRow w0.heap.size 3 1 v' ids'.length (intsC ids')) : Rows3 w0 w' av v' sv all ids' sets :=
  ⟨own_but h.a (grown_own hg) (fun b hb e => own_own_ne h.i h.a (by decide) e hb), ho, own_but h.s (grown_own hg) (fun b hb e => own_own_ne h.i h.s (by decide) e hb)⟩
theorem Rows3.grow_s (h : Rows3 w0 w av iv sv all ids sets) {sets' : List TQ} (hg : w.grownBy w' sv.ownBlock) (ho : w'.ownsRow w0.heap.size 27 1 v' sets'.length (sets'.flatMap TQ.cs)) : Rows3 w0 w' av iv v' all ids sets' :=
  ⟨own_but h.a (grown_own hg) (fun b hb e => own_own_ne h.s h.a (by decide) e hb), own_but h.i (grown_own hg) (fun b hb e => own_own_ne h.s h.i (by decide) e hb), ho⟩
end

theorem get_of_map {α β : Type} {f : α → β} {L : List α} {l : List β} (h : L.map f = l) {k : Nat} (hk : k < L.length) (hk' : k < l.length) : f L[k] = l[k] := by subst h; simp
theorem cnt_keys (f : List Key → Bool) (L : List Ent) : (L.filter (fun e => f e.keys)).length = ((L.map (·.keys)).filter f).length := by rw [List.filter_map, List.length_map]; rfl
theorem PutsInv.cnt {w0 : World} {p1 p2 n k : Nat} {a b : QV} {ids : List Int} {sets : List TQ} (h : PutsInv p1 p2 n k a b ids sets w0) (al : List Key) : (b.L.filter (fun e => meets e.keys (turnL al))).length = (a.L.filter (fun e => meets e.keys al)).length := by
  rw [cnt_keys (fun l => meets l (turnL al)), cnt_keys (fun l => meets l al), h.keys2]
  have : a.L.map (fun e => turnL e.keys) = (a.L.map (·.keys)).map turnL := by rw [List.map_map]; rfl
  rw [this, List.filter_map, List.length_map]
  congr 1
  exact List.filter_congr (fun l _ => by simp only [Function.comp]; exact meets_turn l al)
theorem QV.core_of {a : QV} {L' : List Ent} (h : L'.map Ent.core = a.L.map Ent.core) (i : Nat) (hi : (QV.mk a.p a.bi a.bw a.room a.turns a.lv L' a.W).of i) : a.of i := ofq_core h hi

set_option maxRecDepth 100000 in
set_option maxHeartbeats 16000000 in
theorem lawServes_calls (es : List OpQ) (ts : List TQ) (EA TA : Option Addr) (ec tc : Nat) (w0 : World) (he : Reads w0 w0.heap.size 4 EA es.length (es.flatMap OpQ.cs)) (hel : ∀ e ∈ es, KeysIn w0 w0.heap.size e.A e.c e.keys ∧ wfI e.id)
    (ht : Reads w0 w0.heap.size 1 TA ts.length (ts.flatMap TQ.cs)) (htl : ∀ t ∈ ts, KeysIn w0 w0.heap.size t.A t.c t.keys) (hle : es.length * 48 ≤ 140737488351232) (hlt : ts.length * 24 ≤ 140737488351232) :
    Calls Try.prog 4 #[.slice EA es.length ec, .slice TA ts.length tc] w0 fun e w' => e = .returned (.bool true) ∧ Below w0.heap.size w0 w' := by
  obtain ⟨i0, hi0, hz0, hz1, hz2⟩ := info_parts infoQKey
  obtain ⟨j0, hj0, hjz0, hjz1, hjz2⟩ := info_parts infoQInt
  obtain ⟨l0, hl0, hlz0, hlz1, hlz2⟩ := info_parts infoQSl
  have HE := Lib.hid he
  have HEL := Lib.hid hel
  have HT := Lib.hid ht
  have HTL := Lib.hid htl
  have hle2 : es.length ≤ 2932031007317 := by omega
  have hlt2 : ts.length ≤ 5864062014634 := by omega
  clear he hel ht htl hle hlt
  go_enter Try.func4, Try.ntmps4
  go_wp2_with (fail)
  refine (newQ_calls _ w0).mono ?_
  rintro e w1 ⟨p1, b1, x1, rfl, hQ1, hB1, hO1⟩
  have HQ1 := Lib.hid hQ1
  have HB1 := Lib.hid hB1
  have HO1 := Lib.hid hO1
  clear hQ1 hB1 hO1
  unfold eP
  go_wp2_with (fail)
  refine (newQ_calls _ w1).mono ?_
  rintro e w2 ⟨p2, b2, x2, rfl, hQ2, hB2, hO2⟩
  have hqq : QQ w0 w2 ⟨p1, b1, x1, roomQ es.length, 0, .slice none 0 0, [], []⟩ ⟨p2, b2, x2, roomQ es.length, 0, .slice none 0 0, [], []⟩ (Own3 (.slice none 0 0) (.slice none 0 0) (.slice none 0 0)) := by
    refine ⟨HQ1.out.below hB2, hQ2, fun i hi hj => ?_, HO1.out, fun i hi => Nat.le_trans HB1.out.size (hO2 i hi), fun i hi => ?_, below_after HB1.out hB2⟩
    · have h1 := HQ1.out.lt hi
      have h2 := hO2 i hj
      omega
    · rcases hi with h | h | h <;> cases h
  rw [show roomQ (es.length : Int) = es.length by unfold roomQ; split <;> omega] at hqq
  have HQQ := Lib.hid hqq
  clear hQ2 hB2 hO2 hqq
  unfold eP
  go_wp2_with (fail)
  refine (works_calls w2).mono ?_
  rintro e w3 ⟨rfl, hb3⟩
  have HQ3 := Lib.hid (HQQ.out.below hb3)
  clear hb3
  go_wp2_with (fail)
  -- all of them stand in one list
  go_loopw [7, 10] (fun av i wr => ∃ k : Nat, k ≤ ts.length ∧ i = .int .i64 k ∧ (allK (ts.take k)).length ≤ 100000 ∧ Rows3 w0 wr av (.slice none 0 0) (.slice none 0 0) (allK (ts.take k)) [] [] ∧ QQ w0 wr ⟨p1, b1, x1, es.length, 0, .slice none 0 0, [], []⟩ ⟨p2, b2, x2, es.length, 0, .slice none 0 0, [], []⟩ (Own3 av (.slice none 0 0) (.slice none 0 0))) (fun _ i _ => ts.length - (intOf i).toNat)
  case atStart => exact ⟨0, Nat.zero_le _, rfl, by simp [allK], ⟨World.ownsRow_nil _ _ _ _, World.ownsRow_nil _ _ _ _, World.ownsRow_nil _ _ _ _⟩, HQ3.out⟩
  case round =>
    obtain ⟨k, hk, rfl, hlen, hR, hQ⟩ := hrel
    obtain ⟨AA, ac, rfl⟩ := own_slice hR.a
    have HR := Lib.hid hR
    have HQ := Lib.hid hQ
    clear hR hQ
    by_cases hlt : k < ts.length
    · have hkl : (k : Int) < ts.length := by omega
      obtain ⟨ad, rfl, _, k0⟩ := tq_at (HQ.out.reads HT.out) hlt
      have hT : ts.take (k + 1) = ts.take k ++ [ts[k]] := List.take_succ_eq_append_getElem hlt
      have hin := HTL.out ts[k] (List.getElem_mem hlt)
      obtain ⟨x, hx⟩ : ∃ x, ts[k] = x := ⟨_, rfl⟩
      rw [hx] at k0 hT hin
      obtain ⟨xA, xs, xc⟩ := x
      simp only at k0 hin
      obtain ⟨al, hal⟩ : ∃ al, allK (ts.take k) = al := ⟨_, rfl⟩
      rw [hal] at hlen HR HQ
      rw [hal]
      have hA1 : allK (ts.take (k + 1)) = al ++ xs := by rw [hT, allK_snoc, hal]
      have HA1 := Lib.hid hA1
      have hxl := hin.2.2
      have hadd : IntKind.i64.wrap ((al.length : Int) + xs.length) = (al.length : Int) + xs.length := IntWalk.i64_in _ (by omega)
      have HIN := Lib.hid hin
      clear hx hT hin hal hA1
      by_cases hbig : al.length + xs.length ≤ 100000
      · have hbi : ¬ (100000 : Int) < (al.length : Int) + xs.length := by omega
        cases xA with
        | none =>
          obtain ⟨rfl, rfl⟩ := HIN.out.2.1 rfl
          have hac := own_cap7 HR.out.a
          go_wp2_with (first | (at_builtin; refine wpList_append_none _ rfl (.tmp 57) (.tmp 61) 27 rfl 57 i0 Try.underlying27 hi0 AA al.length ac rfl hac rfl ?_) | fail)
          go_roundw
          case rel =>
            refine ⟨k + 1, by omega, by go_num, ?_⟩
            rw [HA1.out, List.append_nil]
            exact ⟨hlen, HR.out, HQ.out⟩
          case measure => simp [intOf]; omega
        | some xad =>
          have hnews := reads_cells (HQ.out.reads HIN.out.1)
          have HNW := Lib.hid hnews
          clear hnews
          go_wp2_with (first | (at_builtin; refine wpList_append_wide_at _ rfl (.tmp 57) (.tmp 61) 27 rfl w0.heap.size 57 i0 _ 2 16 Try.underlying27 hi0 hz0 hz1 hz2 rfl (by decide) (.slice AA al.length ac) al.length (keysC al) rfl HR.out.a xad xs.length xc (keysC xs) rfl HIN.out.1.1 HNW.out (keys_one xs) ?_ ?_ ?_ ?_; (unfold maxLen; omega); (omega); exact HQ.out.bel.size; intro vq w4 hown4 hg4 _ hat4; obtain ⟨NA, nc, rfl⟩ := own_slice hown4; have hq4 := HQ.out.grow (S' := Own3 (.slice NA (al.length + xs.length) nc) (.slice none 0 0) (.slice none 0 0)) (grown_own hg4) (fun i hi => ⟨.inl hi, own_base HR.out.a hi⟩) (grow_first hat4 (own_lt hown4)); have HO4 := Lib.hid hown4; have HQ4 := Lib.hid hq4; clear hown4 hg4 hat4 hq4) | fail)
          go_roundw
          case rel =>
            refine ⟨k + 1, by omega, by go_num, ?_⟩
            rw [HA1.out, List.length_append]
            refine ⟨hbig, ⟨?_, World.ownsRow_nil _ _ _ _, World.ownsRow_nil _ _ _ _⟩, HQ4.out⟩
            have := HO4.out
            rw [List.length_append, keysC, List.flatMap_append]
            exact this
          case measure => simp [intOf]; omega
      · have hbi : (100000 : Int) < (al.length : Int) + xs.length := by omega
        go_wp2
        go_ret
        exact ⟨rfl, HQ.out.bel⟩
    · obtain rfl : k = ts.length := by omega
      rw [List.take_length] at hlen HR HQ
      rw [List.take_length]
      obtain ⟨al, hal⟩ : ∃ al, allK ts = al := ⟨_, rfl⟩
      rw [hal] at hlen HR HQ
      rw [hal]
      have HAL := Lib.hid hal
      clear hal
      go_wp2_with (fail)
      go_loopw [8, 9, 11] (fun iv sv i wr => ∃ (k : Nat) (a b : QV) (ids : List Int) (sets : List TQ), k ≤ es.length ∧ i = .int .i64 k ∧ Rows3 w0 wr (.slice AA al.length ac) iv sv al ids sets ∧ QQ w0 wr a b (Own3 (.slice AA al.length ac) iv sv) ∧ PutsInv p1 p2 es.length k a b ids sets w0) (fun _ _ i _ => es.length - (intOf i).toNat)
      case atStart => exact ⟨0, _, _, [], [], Nat.zero_le _, rfl, HR.out, HQ.out, ⟨rfl, rfl, rfl, rfl, rfl, rfl, rfl, rfl, fun e he => by simp at he, fun e he => by simp at he, Nat.le_refl _, fun t ht => by simp at ht⟩⟩
      case round =>
        obtain ⟨k, a, b, ids, sets, hk, rfl, hR, hQ, hI⟩ := hrel
        obtain ⟨IA, ic, rfl⟩ := own_slice hR.i
        obtain ⟨SA, sc, rfl⟩ := own_slice hR.s
        by_cases hlt : k < es.length
        · have hkl : (k : Int) < es.length := by omega
          obtain ⟨WD, hWD⟩ : ∃ X, wr.drew = X := ⟨_, rfl⟩
          have hbD : Below wr.heap.size wr WD := hWD ▸ (Below.refl _ _).drew
          have hQD := hQ.below hbD
          have hRD := hR.below hbD
          obtain ⟨ad, rfl, _, k2, k3⟩ := opq_at (hQD.reads HE.out) hlt
          have hin := HEL.out es[k] (List.getElem_mem hlt)
          obtain ⟨x, hx⟩ : ∃ x, es[k] = x := ⟨_, rfl⟩
          rw [hx] at k2 k3 hin
          obtain ⟨xo, xk, id, xA, xs, xc⟩ := x
          simp only at k2 k3 hin
          by_cases hmem : id ∈ ids
          · skip
            have hn1 : putN a.L a.room id = 11 := putN_in (by rw [hI.qi]; exact hmem)
            have hn2 : putN b.L b.room id = 11 := putN_in (by rw [hI.ids2]; exact hmem)
            have hp1 := put_calls id hin.2 xs xA xc WD hQD.qa (hQD.put_reads hin.1.1) hin.1.2.1 (by have := hI.len; omega) (by have := hin.1.2.2; omega)
            rw [hn1, show errV 11 = .iface 62 (.int .i64 11) from rfl, hI.pa] at hp1
            unfold eP at hp1
            have HP1 := Lib.hid hp1
            have HN1 := Lib.hid hn1
            have HN2 := Lib.hid hn2
            have HQD := Lib.hid hQD
            have HRD := Lib.hid hRD
            have HI := Lib.hid hI
            have HIN := Lib.hid hin
            have HM := Lib.hid hmem
            clear hp1 hn1 hn2 hQD hRD hI hin hmem hR hQ hbD
            go_wp2_with (fail)
            refine region_tail 11 (by kernel_rfl) (by kernel_rfl) ?_
            rw [hWD]
            simp only [List.take_succ_cons, List.take_zero, List.drop_succ_cons, List.drop_zero]
            repeat still_step
            refine wpStill_nil ?_
            clear k2 k3
            go_wp2_with (fail)
            refine HP1.out.mono ?_
            rintro e w4 ⟨L1, t1, lv1, W1, rfl, hpq⟩
            have hpq2 := hpq
            rw [← HI.out.pa] at hpq2
            have hq4 := HQD.out.left (a' := ⟨a.p, a.bi, a.bw, a.room, t1, lv1, L1, W1⟩) hpq2.but hpq2.q hpq2.new
            have hr4 := HRD.out.but (S := a.of) hpq2.but (fun i hi => (HQD.out.own i hi).2.1)
            obtain ⟨_, e4, _, k2, k3⟩ := opq_at (hq4.reads HE.out) hlt
            cases e4
            rw [hx] at k2 k3
            simp only at k2 k3
            have htn := turn_calls xs xA xc w4 (hq4.reads HIN.out.1.1) (by have := HIN.out.1.2.2; omega)
            have HTN := Lib.hid htn
            have HPQ1 := Lib.hid hpq
            have HQ4 := Lib.hid hq4
            have HR4 := Lib.hid hr4
            clear hpq hpq2 hq4 hr4 htn
            go_wp2_with (fail)
            refine HTN.out.mono ?_
            rintro e w5 ⟨v5, rfl, hown5, hb5⟩
            obtain ⟨KA, kc, rfl⟩ := own_slice hown5
            have hq5 := HQ4.out.below hb5
            have hr5 := HR4.out.below hb5
            obtain ⟨_, e5, _, k2, k3⟩ := opq_at (hq5.reads HE.out) hlt
            cases e5
            rw [hx] at k2 k3
            simp only at k2 k3
            have hp2 := put_calls id HIN.out.2 (turnL xs) KA kc w5 hq5.qb (fun w' hb => Reads.of_own (own_but hown5 hb (fun g hg hof => by
              have h1 := own_base hown5 hg
              have h2 := QAt.lt HQ4.out.qb hof
              omega))) (fun hA => by
                subst hA
                obtain ⟨h1, h2⟩ := own_nil hown5
                exact ⟨List.eq_nil_of_length_eq_zero h1, h2⟩) (by rw [HI.out.lenb]; have := HI.out.len; omega) (by have := turnL_len xs; have := HIN.out.1.2.2; omega)
            rw [HN2.out, show errV 11 = .iface 62 (.int .i64 11) from rfl, HI.out.pb] at hp2
            unfold eP at hp2
            have HP2 := Lib.hid hp2
            have HQ5 := Lib.hid hq5
            have HR5 := Lib.hid hr5
            clear hp2 hq5 hr5 hown5 hb5
            go_wp2_with (fail)
            refine HP2.out.mono ?_
            rintro e w6 ⟨L2, t2, lv2, W2, rfl, hpq⟩
            have hpq2 := hpq
            rw [← HI.out.pb] at hpq2
            have hq6 := HQ5.out.right (b' := ⟨b.p, b.bi, b.bw, b.room, t2, lv2, L2, W2⟩) hpq2.but hpq2.q hpq2.new
            have hr6 := HR5.out.but (S := b.of) hpq2.but (fun i hi => (HQ5.out.own i hi).2.2)
            obtain ⟨_, e6, _, k2, k3⟩ := opq_at (hq6.reads HE.out) hlt
            cases e6
            rw [hx] at k2 k3
            simp only at k2 k3
            have hhas := fun n => has_calls ids IA ic id w6.heap.size (w6.drewN n) (Reads.of_own hr6.i) (by rw [HI.out.idl]; have := HI.out.len; omega)
            have HHAS := Lib.hid hhas
            have HPQ2 := Lib.hid hpq
            have HQ6 := Lib.hid hq6
            have HR6 := Lib.hid hr6
            clear hpq hpq2 hq6 hr6 hhas
            go_upto_region 20 with fail
            go_cut [111] from 95 to 110 (fun b wd => b = .bool false ∧ Below w6.heap.size w6 wd)
            case first =>
              have hhas := HHAS.out
              have hd : decide (id ∈ ids) = true := decide_eq_true HM.out
              simp only [hd] at hhas
              clear hd
              go_quiet (first | (go_at_call 19; exact Calls.quiet_of_same ((num_errno 11 _ (by decide) (by decide)).mono (fun _ _ h => ⟨h.1, h.2.symm⟩))) | (go_at_call 20; exact Calls.quiet_of_same (hhas _)))
              go_wp2
              go_meet
              case rel => exact ⟨rfl, below_drewN (Below.refl _ _) _⟩
            case rest =>
              obtain ⟨rfl, hb7⟩ := hcut
              have hq7 := HQ6.out.below hb7
              have hr7 := HR6.out.below hb7
              obtain ⟨_, e7, _, k2, k3⟩ := opq_at (hq7.reads HE.out) hlt
              cases e7
              rw [hx] at k2 k3
              simp only at k2 k3
              have HQ7 := Lib.hid hq7
              have HR7 := Lib.hid hr7
              clear hb7 hq7 hr7
              have hst := HI.out.same (t1 := t1) (t2 := t2) (lv1 := lv1) (lv2 := lv2) (W1 := W1) (W2 := W2) (HPQ1.out.no (by rw [HN1.out]; decide)) (HPQ2.out.no (by rw [HN2.out]; decide))
              have HST := Lib.hid hst
              clear hst
              go_wp2_with (fail)
              go_roundw
              case rel => exact ⟨k + 1, _, _, ids, sets, by omega, by go_num, HR7.out, HQ7.out, HST.out⟩
              case measure => simp [intOf]; omega
          · skip
            have hn1 : putN a.L a.room id = 0 := putN_out (by rw [hI.qi]; exact hmem) (by rw [hI.ra]; have := hI.len; omega)
            have hn2 : putN b.L b.room id = 0 := putN_out (by rw [hI.ids2]; exact hmem) (by rw [hI.rb, hI.lenb]; have := hI.len; omega)
            have hp1 := put_calls id hin.2 xs xA xc WD hQD.qa (hQD.put_reads hin.1.1) hin.1.2.1 (by have := hI.len; omega) (by have := hin.1.2.2; omega)
            rw [hn1, show errV 0 = .nilIface from rfl, hI.pa] at hp1
            unfold eP at hp1
            have HP1 := Lib.hid hp1
            have HN1 := Lib.hid hn1
            have HN2 := Lib.hid hn2
            have HQD := Lib.hid hQD
            have HRD := Lib.hid hRD
            have HI := Lib.hid hI
            have HIN := Lib.hid hin
            have HM := Lib.hid hmem
            clear hp1 hn1 hn2 hQD hRD hI hin hmem hR hQ hbD
            go_wp2_with (fail)
            refine region_tail 11 (by kernel_rfl) (by kernel_rfl) ?_
            rw [hWD]
            simp only [List.take_succ_cons, List.take_zero, List.drop_succ_cons, List.drop_zero]
            repeat still_step
            refine wpStill_nil ?_
            clear k2 k3
            go_wp2_with (fail)
            refine HP1.out.mono ?_
            rintro e w4 ⟨L1, t1, lv1, W1, rfl, hpq⟩
            have hpq2 := hpq
            rw [← HI.out.pa] at hpq2
            have hq4 := HQD.out.left (a' := ⟨a.p, a.bi, a.bw, a.room, t1, lv1, L1, W1⟩) hpq2.but hpq2.q hpq2.new
            have hr4 := HRD.out.but (S := a.of) hpq2.but (fun i hi => (HQD.out.own i hi).2.1)
            obtain ⟨_, e4, _, k2, k3⟩ := opq_at (hq4.reads HE.out) hlt
            cases e4
            rw [hx] at k2 k3
            simp only at k2 k3
            have htn := turn_calls xs xA xc w4 (hq4.reads HIN.out.1.1) (by have := HIN.out.1.2.2; omega)
            have HTN := Lib.hid htn
            have HPQ1 := Lib.hid hpq
            have HQ4 := Lib.hid hq4
            have HR4 := Lib.hid hr4
            clear hpq hpq2 hq4 hr4 htn
            go_wp2_with (fail)
            refine HTN.out.mono ?_
            rintro e w5 ⟨v5, rfl, hown5, hb5⟩
            obtain ⟨KA, kc, rfl⟩ := own_slice hown5
            have hq5 := HQ4.out.below hb5
            have hr5 := HR4.out.below hb5
            obtain ⟨_, e5, _, k2, k3⟩ := opq_at (hq5.reads HE.out) hlt
            cases e5
            rw [hx] at k2 k3
            simp only at k2 k3
            have hp2 := put_calls id HIN.out.2 (turnL xs) KA kc w5 hq5.qb (fun w' hb => Reads.of_own (own_but hown5 hb (fun g hg hof => by
              have h1 := own_base hown5 hg
              have h2 := QAt.lt HQ4.out.qb hof
              omega))) (fun hA => by
                subst hA
                obtain ⟨h1, h2⟩ := own_nil hown5
                exact ⟨List.eq_nil_of_length_eq_zero h1, h2⟩) (by rw [HI.out.lenb]; have := HI.out.len; omega) (by have := turnL_len xs; have := HIN.out.1.2.2; omega)
            rw [HN2.out, show errV 0 = .nilIface from rfl, HI.out.pb] at hp2
            unfold eP at hp2
            have HP2 := Lib.hid hp2
            have HQ5 := Lib.hid hq5
            have HR5 := Lib.hid hr5
            clear hp2 hq5 hr5 hown5 hb5
            go_wp2_with (fail)
            refine HP2.out.mono ?_
            rintro e w6 ⟨L2, t2, lv2, W2, rfl, hpq⟩
            have hpq2 := hpq
            rw [← HI.out.pb] at hpq2
            have hq6 := HQ5.out.right (b' := ⟨b.p, b.bi, b.bw, b.room, t2, lv2, L2, W2⟩) hpq2.but hpq2.q hpq2.new
            have hr6 := HR5.out.but (S := b.of) hpq2.but (fun i hi => (HQ5.out.own i hi).2.2)
            obtain ⟨_, e6, _, k2, k3⟩ := opq_at (hq6.reads HE.out) hlt
            cases e6
            rw [hx] at k2 k3
            simp only at k2 k3
            have hhas := fun n => has_calls ids IA ic id w6.heap.size (w6.drewN n) (Reads.of_own hr6.i) (by rw [HI.out.idl]; have := HI.out.len; omega)
            have HHAS := Lib.hid hhas
            have HPQ2 := Lib.hid hpq
            have HQ6 := Lib.hid hq6
            have HR6 := Lib.hid hr6
            clear hpq hpq2 hq6 hr6 hhas
            go_upto_region 20 with fail
            go_cut [111] from 95 to 110 (fun b wd => b = .bool false ∧ Below w6.heap.size w6 wd)
            case first =>
              have hhas := HHAS.out
              have hd : decide (id ∈ ids) = false := decide_eq_false HM.out
              simp only [hd] at hhas
              clear hd
              go_quiet (first | (go_at_call 19; exact Calls.quiet_of_same ((num_nil _).mono (fun _ _ h => ⟨h.1, h.2.symm⟩))) | (go_at_call 20; exact Calls.quiet_of_same (hhas _)))
              go_wp2
              go_meet
              case rel => exact ⟨rfl, below_drewN (Below.refl _ _) _⟩
            case rest =>
              obtain ⟨rfl, hb7⟩ := hcut
              have hq7 := HQ6.out.below hb7
              have hr7 := HR6.out.below hb7
              obtain ⟨_, e7, _, k2, k3⟩ := opq_at (hq7.reads HE.out) hlt
              cases e7
              rw [hx] at k2 k3
              simp only at k2 k3
              have HQ7 := Lib.hid hq7
              have HR7 := Lib.hid hr7
              clear hb7 hq7 hr7
              have hst := HI.out.more (t1 := t1) (t2 := t2) (lv1 := lv1) (lv2 := lv2) (W1 := W1) (W2 := W2) HIN.out.1 (HPQ1.out.yes HN1.out) (HPQ2.out.yes HN2.out)
              have HST := Lib.hid hst
              clear hst
              have hal : Below wc.heap.size wc (wc.alloc (.cells #[.int .i64 id] 3)) := (Below.refl _ _).alloc (Nat.le_refl _) _
              have HQA := Lib.hid (HQ7.out.below hal)
              have HRA := Lib.hid (HR7.out.below hal)
              have hil : ids.length ≤ k := by rw [HI.out.idl]; exact HI.out.len
              have hsl : sets.length ≤ k := by rw [HI.out.setl]; exact HI.out.len
              clear hal
              go_wp2_with (first
                | (at_builtin; refine wpList_append_wide_at _ rfl (.tmp 114) (.tmp 120) 47 rfl w0.heap.size 3 j0 _ 1 8 Try.underlying47 hj0 hjz0 hjz1 hjz2 rfl (by decide) (.slice IA ids.length ic) ids.length (intsC ids) rfl HRA.out.i ⟨wc.heap.size, 0, none⟩ 1 1 [.int .i64 id] rfl rfl ?_ ?_ ?_ ?_ ?_ ?_; exact new_cells wc 3 [.int .i64 id]; (simp [Value.oneCell']); (unfold maxLen; omega); (omega); exact HQA.out.bel.size; intro vq w8 hown8 hg8 _ hat8; obtain ⟨NA, nc, rfl⟩ := own_slice hown8
                   have hq8 := HQA.out.grow (S' := Own3 (.slice AA al.length ac) (.slice NA (ids.length + 1) nc) (.slice SA sets.length sc)) (grown_own hg8) (fun i hi => ⟨.inr (.inl hi), own_base HRA.out.i hi⟩) (grow_second hat8 (own_lt hown8))
                   have hr8 := HRA.out.grow_i (ids' := ids ++ [id]) hg8 (by rw [intsC, List.flatMap_append, List.length_append]; exact hown8)
                   obtain ⟨_, e8, _, k2, k3⟩ := opq_at (hq8.reads HE.out) hlt
                   cases e8
                   rw [hx] at k2 k3
                   simp only at k2 k3
                   have hal : Below w8.heap.size w8 (w8.alloc (.cells #[.slice xA xs.length xc] 27)) := (Below.refl _ _).alloc (Nat.le_refl _) _
                   have HQB := Lib.hid (hq8.below hal)
                   have HRB := Lib.hid (hr8.below hal)
                   clear hown8 hg8 hat8 hq8 hr8 hal)
                | (at_builtin; refine wpList_append_wide_at _ rfl (.tmp 122) (.tmp 128) 46 rfl w0.heap.size 27 l0 _ 1 24 Try.underlying46 hl0 hlz0 hlz1 hlz2 rfl (by decide) (.slice SA sets.length sc) sets.length (sets.flatMap TQ.cs) rfl HRB.out.s ⟨w8.heap.size, 0, none⟩ 1 1 [.slice xA xs.length xc] rfl rfl ?_ ?_ ?_ ?_ ?_ ?_; exact new_cells w8 27 [.slice xA xs.length xc]; (simp [Value.oneCell']); (unfold maxLen; omega); (omega); exact HQB.out.bel.size; intro vq w9 hown9 hg9 _ hat9; obtain ⟨MA, mc, rfl⟩ := own_slice hown9
                   have HQ9 := Lib.hid (HQB.out.grow (S' := Own3 (.slice AA al.length ac) (.slice NA (ids.length + 1) nc) (.slice MA (sets.length + 1) mc)) (grown_own hg9) (fun i hi => ⟨.inr (.inr hi), own_base HRB.out.s hi⟩) (grow_third hat9 (own_lt hown9)))
                   have HR9 := Lib.hid (HRB.out.grow_s (sets' := sets ++ [⟨xA, xs, xc⟩]) hg9 (by rw [List.flatMap_append, List.length_append]; exact hown9))
                   clear hown9 hg9 hat9)
                | fail)
              go_roundw
              case rel => exact ⟨k + 1, _, _, ids ++ [id], sets ++ [⟨xA, xs, xc⟩], by omega, by go_num, HR9.out, HQ9.out, HST.out⟩
              case measure => simp [intOf]; omega
        · obtain rfl : k = es.length := by omega
          have hnA : ∀ e ∈ a.L, e.tkn = false := fun e he => (hI.fa e he).2
          have hnB : ∀ e ∈ b.L, e.tkn = false := fun e he => (hI.fb e he).2
          have hmA := mk_false (fun e he => (hI.fa e he).1)
          have hmB := mk_false (fun e he => (hI.fb e he).1)
          have hlA : a.L.length ≤ 2932031007317 := Nat.le_trans hI.len hle2
          have hlB : b.L.length ≤ 2932031007317 := by rw [hI.lenb]; exact hlA
          have HNA := Lib.hid hnA
          have HNB := Lib.hid hnB
          have HMA := Lib.hid hmA
          have HMB := Lib.hid hmB
          have HI := Lib.hid hI
          have HRX := Lib.hid hR
          have HQX := Lib.hid hQ
          obtain ⟨pa, ba, xa, ra, ta, va, La, Wa⟩ := a
          obtain rfl := hI.pa
          obtain ⟨pb, bb, xb, rb, tb, vb, Lb, Wb⟩ := b
          obtain rfl := hI.pb
          simp only at hlA hlB HNA HNB HMA HMB
          clear hnA hnB hmA hmB hI hR hQ
          go_wp2_with (fail)
          go_loopw [15, 16] (fun sv i wr => ∃ k : Nat, k ≤ ts.length ∧ i = .int .i64 k ∧ sv = .int .i64 ((La.filter (fun e => meets e.keys (allK (ts.take k)))).length : Nat) ∧ Rows3 w0 wr (.slice AA al.length ac) (.slice IA ids.length ic) (.slice SA sets.length sc) al ids sets ∧ QQ w0 wr ⟨pa, ba, xa, ra, ta, va, mkR (fun e => meets e.keys (allK (ts.take k))) La, Wa⟩ ⟨pb, bb, xb, rb, tb, vb, Lb, Wb⟩ (Own3 (.slice AA al.length ac) (.slice IA ids.length ic) (.slice SA sets.length sc))) (fun _ i _ => ts.length - (intOf i).toNat)
          case atStart =>
            have h0 : (fun e : Ent => meets e.keys (allK (ts.take 0))) = fun _ => false := funext (fun e => by rw [List.take_zero]; exact meets_nil _)
            refine ⟨0, Nat.zero_le _, rfl, ?_, HRX.out, ?_⟩
            · have hz : La.filter (fun e => meets e.keys (allK (ts.take 0))) = [] := List.filter_eq_nil_iff.2 (fun e _ => by rw [List.take_zero]; simp [allK, meets])
              rw [hz]; rfl
            · rw [h0, HMA.out]; exact HQX.out
          case round =>
            obtain ⟨k, hk, rfl, rfl, hR, hQ⟩ := hrel
            by_cases hlt : k < ts.length
            · have hkl : (k : Int) < ts.length := by omega
              obtain ⟨ad, rfl, _, k0⟩ := tq_at (hQ.reads HT.out) hlt
              have hT : ts.take (k + 1) = ts.take k ++ [ts[k]] := List.take_succ_eq_append_getElem hlt
              have hin := HTL.out ts[k] (List.getElem_mem hlt)
              obtain ⟨x, hx⟩ : ∃ x, ts[k] = x := ⟨_, rfl⟩
              rw [hx] at k0 hT hin
              obtain ⟨xA, xs, xc⟩ := x
              simp only at k0 hin
              obtain ⟨pr, hpr⟩ : ∃ pr, allK (ts.take k) = pr := ⟨_, rfl⟩
              rw [hpr] at hQ
              rw [hpr]
              have hA1 : allK (ts.take (k + 1)) = pr ++ xs := by rw [hT, allK_snoc, hpr]
              have htm := touch_mk (P := fun e => meets e.keys pr) HNA.out xs
              have hfun : (fun e : Ent => meets e.keys pr || meets e.keys xs) = fun e => meets e.keys (allK (ts.take (k + 1))) := funext (fun e => by rw [hA1, meets_app])
              rw [hfun] at htm
              have htc := touch_calls xs xA xc wr hQ.qa (hQ.put_reads hin.1) (by simp only [mkR, List.length_map]; omega) (by have := hin.2.2; omega)
              simp only at htc
              rw [htm.1] at htc
              obtain ⟨F, hF⟩ : ∃ F, freshBy (mkR (fun e => meets e.keys pr) La) (fun e => meets e.keys xs) = F := ⟨_, rfl⟩
              rw [hF] at htc htm
              have hc1 : (La.filter (fun e => meets e.keys pr)).length ≤ La.length := List.length_filter_le _ _
              have hc2 : (La.filter (fun e => meets e.keys (allK (ts.take (k + 1))))).length ≤ La.length := List.length_filter_le _ _
              obtain ⟨C, hC⟩ : ∃ C, (La.filter (fun e => meets e.keys pr)).length = C := ⟨_, rfl⟩
              rw [hC] at htm hc1
              rw [hC]
              have hadd : IntKind.i64.wrap ((C : Int) + F) = (C : Int) + F := IntWalk.i64_in _ (by omega)
              unfold eP at htc
              have HTM := Lib.hid htm.2
              have HTC := Lib.hid htc
              have HR := Lib.hid hR
              have HQ := Lib.hid hQ
              clear hR hQ hT hin hx htm htc hF hc1 hc2 hA1 hfun hpr hC
              go_wp2_with (fail)
              refine HTC.out.mono ?_
              rintro e w4 ⟨rfl, hq4, hb4⟩
              have hqq := HQ.out.left (a' := ⟨pa, ba, xa, ra, ta, va, mkR (fun e => meets e.keys (allK (ts.take (k + 1)))) La, Wa⟩) hb4 hq4 (fun i hi => .inl (ofq_core (by rw [mkR_core, mkR_core]) hi))
              have hrr := HR.out.but hb4 (fun i hi => (HQ.out.own i hi).2.1)
              have HQ4 := Lib.hid hqq
              have HR4 := Lib.hid hrr
              clear hq4 hb4 hqq hrr
              go_wp2_with (fail)
              go_roundw
              case rel =>
                refine ⟨k + 1, by omega, by go_num, ?_, HR4.out, HQ4.out⟩
                have := HTM.out
                congr 1
                omega
              case measure => simp [intOf]; omega
            · obtain rfl : k = ts.length := by omega
              rw [List.take_length, HAL.out] at hQ
              rw [List.take_length, HAL.out]
              have htn := turn_calls al AA ac wr (Reads.of_own hR.a) (by omega)
              have HTN := Lib.hid htn
              have HR := Lib.hid hR
              have HQ := Lib.hid hQ
              clear htn hR hQ
              go_wp2_with (fail)
              refine HTN.out.mono ?_
              rintro e w5 ⟨v5, rfl, hown5, hb5⟩
              obtain ⟨KA, kc, rfl⟩ := own_slice hown5
              have hq5 := HQ.out.below hb5
              have hr5 := HR.out.below hb5
              have htc := touch_calls (turnL al) KA kc w5 hq5.qb (fun w' hb => Reads.of_own (own_but hown5 hb (fun g hg hof => by
                have h1 := own_base hown5 hg
                have h2 := QAt.lt HQ.out.qb hof
                omega))) (by simp only; omega) (by have := turnL_len al; omega)
              have htm := touch_mk (P := fun _ => false) HNB.out (turnL al)
              rw [HMB.out] at htm
              simp only [Bool.false_or] at htm
              have hcnt := HI.out.cnt al
              simp only at hcnt htc
              rw [htm.1, show freshBy Lb (fun e => meets e.keys (turnL al)) = (La.filter (fun e => meets e.keys al)).length by rw [← hcnt, ← htm.2]; simp] at htc
              unfold eP at htc
              have HTC := Lib.hid htc
              have HQ5 := Lib.hid hq5
              have HR5 := Lib.hid hr5
              clear hq5 hr5 htc htm hcnt hown5 hb5
              go_wp2_with (fail)
              refine HTC.out.mono ?_
              rintro e w6 ⟨rfl, hq6, hb6⟩
              have hqq := HQ5.out.right (b' := ⟨pb, bb, xb, rb, tb, vb, mkR (fun e => meets e.keys (turnL al)) Lb, Wb⟩) hb6 hq6 (fun i hi => .inl (ofq_core (by rw [mkR_core]) hi))
              have hrr := HR5.out.but hb6 (fun i hi => (HQ5.out.own i hi).2.2)
              have HQ6 := Lib.hid hqq
              have HR6 := Lib.hid hrr
              clear hq6 hb6 hqq hrr
              go_wp2_with (fail)
              have hidl := HI.out.idl
              have hsetl := HI.out.setl
              have hlenb := HI.out.lenb
              simp only at hidl hsetl hlenb
              have HIDL := Lib.hid hidl
              have HSETL := Lib.hid hsetl
              have HLENB := Lib.hid hlenb
              clear hidl hsetl hlenb
              go_loopw [15, 17] (fun sv i wr => ∃ (k : Nat) (S1 S2 : List Ent), k ≤ ids.length ∧ i = .int .i64 k ∧ sv = .int .i64 (((La.drop k).filter (fun e => meets e.keys al)).length : Nat) ∧ Rows3 w0 wr (.slice AA al.length ac) (.slice IA ids.length ic) (.slice SA sets.length sc) al ids sets ∧ QQ w0 wr ⟨pa, ba, xa, ra, ta, va, S1, Wa⟩ ⟨pb, bb, xb, rb, tb, vb, S2, Wb⟩ (Own3 (.slice AA al.length ac) (.slice IA ids.length ic) (.slice SA sets.length sc)) ∧ TakenTo (fun e => meets e.keys al) La S1 k ∧ TakenTo (fun e => meets e.keys (turnL al)) Lb S2 k ∧ S1.length = La.length ∧ S2.length = Lb.length) (fun _ i _ => ids.length - (intOf i).toNat)
              case atStart => exact ⟨0, _, _, Nat.zero_le _, rfl, rfl, HR6.out, HQ6.out, taken_start _ _, taken_start _ _, by unfold mkR; simp, by unfold mkR; simp⟩
              case round =>
                obtain ⟨k, S1, S2, hk, rfl, rfl, hR, hQ, hT1, hT2, hS1, hS2⟩ := hrel
                by_cases hlt : k < ids.length
                · have hkl : (k : Int) < ids.length := by omega
                  have hkL : k < La.length := by have := HIDL.out; omega
                  have hkB : k < Lb.length := by have := HLENB.out; omega
                  have hkS : k < sets.length := by have := HSETL.out; omega
                  have hkls : (k : Int) < sets.length := by omega
                  obtain ⟨sd, hsd, _, k0⟩ := tq_at (Reads.of_own hR.s) hkS
                  subst hsd
                  have hin := HI.out.sin sets[k] (List.getElem_mem hkS)
                  have hq1 : sets[k].keys = La[k].keys := by
                    have h1 := get_of_map (f := (·.keys)) HI.out.qs hkS (by simpa using hkL)
                    rw [h1]; simp
                  have hq2 : Lb[k].keys = turnL La[k].keys := by
                    have h1 := get_of_map (f := (·.keys)) HI.out.keys2 hkB (by simpa using hkL)
                    rw [h1]; simp
                  have hi1 : La[k].id = ids[k] := get_of_map (f := (·.id)) HI.out.qi hkL hlt
                  have hi2 : Lb[k].id = ids[k] := get_of_map (f := (·.id)) HI.out.ids2 hkB hlt
                  obtain ⟨x, hx⟩ : ∃ x, sets[k] = x := ⟨_, rfl⟩
                  rw [hx] at k0 hin hq1
                  obtain ⟨xA, xs, xc⟩ := x
                  simp only at k0 hin hq1
                  have hm1 : (fun e : Ent => meets e.keys al) La[k] = meets xs al := by simp only [hq1]
                  have hm2 : (fun e : Ent => meets e.keys (turnL al)) Lb[k] = meets xs al := by simp only [hq2, ← hq1]; exact meets_turn _ _
                  have hmc := meets_calls xs al xA AA xc ac wr (hQ.reads hin.1) (Reads.of_own hR.a) (by have := hin.2.2; omega) (by omega)
                  have hdr : La.drop k = La[k] :: La.drop (k + 1) := drop_at hkL
                  have HMC := Lib.hid hmc
                  have HM1 := Lib.hid hm1
                  have HM2 := Lib.hid hm2
                  have HDR := Lib.hid hdr
                  have HI1 := Lib.hid hi1
                  have HI2 := Lib.hid hi2
                  have HRY := Lib.hid hR
                  have HQY := Lib.hid hQ
                  have HT1 := Lib.hid hT1
                  have HT2 := Lib.hid hT2
                  clear hmc hm1 hm2 hdr hi1 hi2 hR hQ hT1 hT2 hin hq1 hq2 hx
                  go_wp2_with (fail)
                  refine HMC.out.mono ?_
                  rintro e w7 ⟨rfl, hb7⟩
                  have HR7 := Lib.hid (HRY.out.below hb7)
                  have HQ7 := Lib.hid (HQY.out.below hb7)
                  clear hb7
                  cases hm : meets xs al with
                  | false =>
                    have hs : ((La.drop k).filter (fun e => meets e.keys al)).length = ((La.drop (k + 1)).filter (fun e => meets e.keys al)).length := by
                      rw [HDR.out, List.filter_cons_of_neg (by rw [HM1.out, hm]; simp)]
                    rw [hs]
                    have HN1 := Lib.hid (taken_skip hkL HT1.out (HM1.out.trans hm))
                    have HN2 := Lib.hid (taken_skip hkB HT2.out (HM2.out.trans hm))
                    clear hs
                    go_wp2_with (fail)
                    go_roundw
                    case rel => exact ⟨k + 1, _, _, by omega, by go_num, rfl, HR7.out, HQ7.out, HN1.out, HN2.out, hS1, hS2⟩
                    case measure => simp [intOf]; omega
                  | true =>
                    obtain ⟨C, hC⟩ : ∃ C, ((La.drop (k + 1)).filter (fun e => meets e.keys al)).length = C := ⟨_, rfl⟩
                    have hs : ((La.drop k).filter (fun e => meets e.keys al)).length = C + 1 := by
                      rw [HDR.out, List.filter_cons_of_pos (by rw [HM1.out, hm]), ← hC]; rfl
                    have hCl : C ≤ La.length := by rw [← hC]; exact Nat.le_trans (List.length_filter_le _ _) (by simp)
                    rw [hs]
                    have HC := Lib.hid hC
                    have htk := take_calls w7 HQ7.out.qa (by simp only; omega)
                    simp only at htk
                    unfold eP at htk
                    have HTK := Lib.hid htk
                    clear hs hC htk
                    go_wp2_with (fail)
                    refine HTK.out.mono ?_
                    rintro e w8 ⟨S1', n1, ok1, rfl, htq1, hc1, hq8, hb8⟩
                    obtain ⟨rfl, rfl, hT1'⟩ := taken_take hkL HT1.out (HM1.out.trans hm) htq1
                    have hqq8 := HQ7.out.left (a' := ⟨pa, ba, xa, ra, ta, va, S1', Wa⟩) hb8 hq8 (fun i hi => .inl (ofq_core hc1 hi))
                    have hrr8 := HR7.out.but hb8 (fun i hi => (HQ7.out.own i hi).2.1)
                    have htk := take_calls w8 hqq8.qb (by simp only; omega)
                    simp only at htk
                    unfold eP at htk
                    have hS1' : S1'.length = La.length := (core_len hc1).trans hS1
                    have HTK2 := Lib.hid htk
                    have HQ8 := Lib.hid hqq8
                    have HR8 := Lib.hid hrr8
                    have HN1 := Lib.hid hT1'
                    clear htq1 hc1 hq8 hb8 hT1' hqq8 hrr8 htk
                    rw [HI1.out]
                    go_wp2_with (fail)
                    refine HTK2.out.mono ?_
                    rintro e w9 ⟨S2', n2, ok2, rfl, htq2, hc2, hq9, hb9⟩
                    obtain ⟨rfl, rfl, hT2'⟩ := taken_take hkB HT2.out (HM2.out.trans hm) htq2
                    have hqq9 := HQ8.out.right (b' := ⟨pb, bb, xb, rb, tb, vb, S2', Wb⟩) hb9 hq9 (fun i hi => .inl (ofq_core hc2 hi))
                    have hrr9 := HR8.out.but hb9 (fun i hi => (HQ8.out.own i hi).2.2)
                    obtain ⟨idd, hidd, _, i0⟩ := ints_at (Reads.of_own hrr9.i) hlt
                    subst hidd
                    have hS2' : S2'.length = Lb.length := (core_len hc2).trans hS2
                    have HQ9 := Lib.hid hqq9
                    have HR9 := Lib.hid hrr9
                    have HN2 := Lib.hid hT2'
                    clear htq2 hc2 hq9 hb9 hT2' hqq9 hrr9
                    rw [HI2.out]
                    obtain ⟨n, hn⟩ : ∃ n, ids[k] = n := ⟨_, rfl⟩
                    rw [hn] at i0
                    rw [hn]
                    clear hn
                    have hsub : IntKind.i64.wrap (((C + 1 : Nat) : Int) - 1) = (C : Int) := by
                      rw [show ((C + 1 : Nat) : Int) - 1 = C by omega]
                      exact IntWalk.i64_in _ (by omega)
                    go_wp2_with (fail)
                    go_roundw
                    case rel => exact ⟨k + 1, _, _, by omega, by go_num, by rw [HC.out], HR9.out, HQ9.out, HN1.out, HN2.out, hS1', hS2'⟩
                    case measure => simp [intOf]; omega
                · obtain rfl : k = ids.length := by omega
                  rw [HIDL.out] at hT1
                  rw [HIDL.out, ← HLENB.out] at hT2
                  have hz : ((La.drop ids.length).filter (fun e => meets e.keys al)).length = 0 := by rw [HIDL.out, List.drop_length]; rfl
                  rw [hz]
                  have htk := take_calls wr hQ.qa (by simp only; omega)
                  simp only at htk
                  unfold eP at htk
                  have HTK := Lib.hid htk
                  have HT1 := Lib.hid hT1
                  have HT2 := Lib.hid hT2
                  have HQZ := Lib.hid hQ
                  clear hz htk hT1 hT2 hQ hR
                  go_wp2_with (fail)
                  refine HTK.out.mono ?_
                  rintro e w8 ⟨S1', n1, ok1, rfl, htq1, hc1, hq8, hb8⟩
                  obtain rfl := taken_end HT1.out htq1
                  have hqq8 := HQZ.out.left (a' := ⟨pa, ba, xa, ra, ta, va, S1', Wa⟩) hb8 hq8 (fun i hi => .inl (ofq_core hc1 hi))
                  have htk := take_calls w8 hqq8.qb (by simp only; omega)
                  simp only at htk
                  unfold eP at htk
                  have HTK2 := Lib.hid htk
                  have HQ8 := Lib.hid hqq8
                  clear htq1 hc1 hq8 hb8 hqq8 htk
                  go_wp2_with (fail)
                  refine HTK2.out.mono ?_
                  rintro e w9 ⟨S2', n2, ok2, rfl, htq2, hc2, hq9, hb9⟩
                  obtain rfl := taken_end HT2.out htq2
                  have hqq9 := HQ8.out.right (b' := ⟨pb, bb, xb, rb, tb, vb, S2', Wb⟩) hb9 hq9 (fun i hi => .inl (ofq_core hc2 hi))
                  have HB9 := Lib.hid hqq9.bel
                  clear htq2 hc2 hq9 hb9 hqq9
                  go_wp2
                  go_ret
                  exact ⟨rfl, HB9.out⟩
end Go.Proofs.Ytmcknfpohnobdaa
