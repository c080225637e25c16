/- QueueScript: step, one kind of call at a time (printed by gen_step19.py). -/
import Derived.Test.YtmcknfpohnobdaaDoorPm19
namespace Go.Proofs.YtmcknfpohnobdaaDoor
set_option linter.unusedSimpArgs false
set_option linter.unusedVariables false
open Go.RowKit Go.MapKept Go.ChangeMaps Go.Maps

def StepP (w0 w : World) (a : QV) (d : RV) (e : Ending) (w' : World) : Prop := ∃ a' d', e = .returned (.bool true) ∧ StepR w0 w w' a d a' d'

set_option maxRecDepth 100000 in
set_option maxHeartbeats 1000000 in
theorem full_draws {p bi bw : Nat} {room turns : Int} {lv : Value} {L : List Ent} {W : List (Key × Nat)} (w : World) (h : QAt w p room turns lv bi bw L W) : Calls Tryd.prog 17 #[eP p] w
    fun e w' => e = .returned (.bool (decide (room ≤ L.length))) ∧ ∃ n, w' = w.drewN n := by
  obtain ⟨A, c, rfl⟩ := own_slice h.row
  have c2 : w.cell? ⟨p, 2, none⟩ = some (.slice A L.length c) := h.blk.cell 2
  have c0 : w.cell? ⟨p, 0, none⟩ = some (.int .i64 room) := h.blk.cell 0
  unfold eP
  go_enter Tryd.func17, Tryd.ntmps17
  go_wp2_with (fail)
  go_quiet (fail)
  go_wp2
  go_ret
  exact ⟨rfl, _, rfl⟩
theorem putN_bounds (L : List Ent) (room id : Int) : 0 ≤ putN L room id ∧ putN L room id ≤ 24 := by
  unfold putN
  split
  · decide
  · split <;> decide
theorem put_rel {L L' : List Ent} {M M' : List RE} {room id : Int} {ks : List Key} {B : Nat} (h : RelL L M) (hn : putN L room id ≠ 0 → L' = L) (hy : putN L room id = 0 → ∃ y : Ent, L' = L ++ [y] ∧ y.id = id ∧ y.keys = ks ∧ y.rdy = false ∧ y.tkn = false ∧ y.tch = false)
    (gn : putRN M room id ≠ 0 → M' = M) (gy : putRN M room id = 0 → ∃ y : RE, M' = M ++ [y] ∧ y.id = id ∧ y.keys = ks ∧ y.is = 0 ∧ y.tch = false) (hk : ∀ x ∈ M, x.keys.length ≤ B) (hkB : ks.length ≤ B) :
    RelL L' M' ∧ L'.length ≤ L.length + 1 ∧ ∀ x ∈ M', x.keys.length ≤ B := by
  have he := h.put_eq room id
  by_cases h0 : putN L room id = 0
  · obtain ⟨y, rfl, y1, y2, y3, y4, y5⟩ := hy h0
    obtain ⟨z, rfl, z1, z2, z3, z4⟩ := gy (he ▸ h0)
    refine ⟨h.snoc (show RelE y z from ⟨z1.trans y1.symm, z2.trans y2.symm, by rw [z3, isOf, y4, y3]; rfl, (fun q => absurd (y4.symm.trans q) (by decide)), by rw [y3]; rfl⟩), by simp, fun x hx => ?_⟩
    rcases List.mem_append.1 hx with hx | hx
    · exact hk x hx
    · rw [List.mem_singleton.1 hx, z2]; exact hkB
  · rw [hn h0, gn (fun q => h0 (he.trans q))]
    exact ⟨h, Nat.le_succ _, hk⟩
theorem step_done {w0 w W2 W3 W4 W5 : World} {a a' : QV} {d d' : RV} (hb2 : Below w.heap.size w W2) (hR : But W2 W3 d.of) (hQ : But W3 W4 a.of) (hE : But W4 W5 (fun i => w.heap.size ≤ i)) (hp : PM w0 W5 a' d' (fun _ => False)) (hs : Same19 a' d')
    (nd : ∀ i, d'.of i → d.of i ∨ W2.heap.size ≤ i) (na : ∀ i, a'.of i → a.of i ∨ W3.heap.size ≤ i) (hpp : a'.p = a.p) (hqq : d'.q = d.q) (hl : a'.L.length ≤ a.L.length + 1) : StepR w0 w W5 a d a' d' :=
  ⟨hp, hs, (((But.of_below hb2 (fun i => a.of i ∨ d.of i)).trans hR (fun i _ h => .inr h)).trans hQ (fun i _ h => .inl h)).trans hE (fun i hi h => absurd hi (by omega)),
    fun i hi => (na i hi).imp (fun h => h) (fun h => by have := hb2.size; have := hR.size; omega), fun i hi => (nd i hi).imp (fun h => h) (fun h => by have := hb2.size; omega), hpp, hqq, hl⟩
theorem set_kl {M : List RE} {B k : Nat} {y : RE} (h : ∀ x ∈ M, x.keys.length ≤ B) (hk : k < M.length) (hy : y.keys = M[k].keys) : ∀ x ∈ M.set k y, x.keys.length ≤ B := by
  intro x hx
  rcases List.mem_or_eq_of_mem_set hx with h1 | rfl
  · exact h x h1
  · rw [hy]; exact h _ (List.getElem_mem hk)
theorem take_kl {M M' : List RE} {B : Nat} {n : Int} {ok : Bool} (h : ∀ x ∈ M, x.keys.length ≤ B) (hr : TakeR M M' n ok) : ∀ x ∈ M', x.keys.length ≤ B := by
  rcases hr with ⟨_, _, rfl, _⟩ | ⟨k, hk, _, _, _, _, rfl⟩
  · exact h
  · exact set_kl h hk rfl
theorem back_kl {M M' : List RE} {B : Nat} {id : Int} {ok : Bool} (h : ∀ x ∈ M, x.keys.length ≤ B) (hr : BackR M M' id ok) : ∀ x ∈ M', x.keys.length ≤ B := by
  rcases hr with ⟨_, rfl, _⟩ | ⟨k, hk, _, _, _, rfl⟩
  · exact h
  · exact set_kl h hk rfl
theorem remv_kl {M M' : List RE} {B : Nat} {id : Int} {ok : Bool} (h : ∀ x ∈ M, x.keys.length ≤ B) (hr : RemvR M M' id ok) : ∀ x ∈ M', x.keys.length ≤ B := by
  rcases hr with ⟨_, rfl, _⟩ | ⟨k, hk, _, _, rfl⟩
  · exact h
  · exact fun x hx => h x ((List.eraseIdx_sublist M k).mem hx)
theorem touch_kl {M : List RE} {B : Nat} {ks : List Key} (h : ∀ x ∈ M, x.keys.length ≤ B) : ∀ x ∈ M.map (RE.touch ks), x.keys.length ≤ B := by
  intro x hx
  obtain ⟨y, hy, rfl⟩ := List.mem_map.1 hx
  rw [(kv_touch ks y).2]
  exact h y hy
set_option maxRecDepth 100000 in
set_option maxHeartbeats 4000000 in
theorem step2_calls {w0 w : World} {a : QV} {d : RV} {ks : List Key} {A : Option Addr} {c n : Nat} {id : Int} (on kd : Int) (h : StepH w0 w a d id ks A c n) :
    Calls Tryd.prog 12 #[eP a.p, eP d.q, .agg #[.int .i64 on, .int .i64 kd, .int .i64 id, .slice A ks.length c], .int .i64 2] w (StepP w0 w a d) := by
  obtain ⟨p, bi, bw, room, T, lv, L, W⟩ := a
  obtain ⟨q, room', v, M⟩ := d
  have hs := h.same
  have hlen : L.length ≤ n := h.len
  have hnn := h.nn
  have hwf := h.wf
  have hG := h.hG
  obtain ⟨hkr, hkA, hkl⟩ := h.ks
  have hp0 := h.pm
  have hrm : room = room' := hs.room
  have hrel : RelL L M := hs.rel
  have hMl : M.length = L.length := hrel.1.symm
  have hkk : ∀ x ∈ M, x.keys.length ≤ 8796093030000 := hs.kl
  have hnd : (L.map (·.id)).Nodup := (show QAt w p room T lv bi bw L W from hp0.qa).idn
  clear h hs
  obtain ⟨W1, hW1⟩ : ∃ X, w.alloc (.cells #[.int .i64 on, .int .i64 kd, .int .i64 id, .slice A ks.length c] 33) = X := ⟨_, rfl⟩
  obtain ⟨g, hg⟩ : ∃ g, w.heap.size = g := ⟨_, rfl⟩
  have hb1 : Below w.heap.size w W1 := hW1 ▸ (Below.refl _ _).alloc (Nat.le_refl _) _
  have hk1 : Blk W1 g 33 #[.int .i64 on, .int .i64 kd, .int .i64 id, .slice A ks.length c] := hg ▸ hW1 ▸ Blk.new w _ _
  have hp1 : PM w0 W1 ⟨p, bi, bw, room, T, lv, L, W⟩ ⟨q, room', v, M⟩ (fun i => i = g) := hp0.grow (But.of_below hb1 _) (fun i hi => .inr ⟨by rw [hi, ← hg]; exact Nat.le_refl _, hi ▸ hk1.lt⟩)
  have k2 : (w.alloc (.cells #[.int .i64 on, .int .i64 kd, .int .i64 id, .slice A ks.length c] 33)).cell? ⟨w.heap.size, 2, none⟩ = some (.int .i64 id) := (Blk.new w _ _).cell 2
  have k3 : (w.alloc (.cells #[.int .i64 on, .int .i64 kd, .int .i64 id, .slice A ks.length c] 33)).cell? ⟨w.heap.size, 3, none⟩ = some (.slice A ks.length c) := (Blk.new w _ _).cell 3
  have hln := lentKeys_calls ks A c W1.heap.size W1 (hp1.reads hkr) (Nat.le_refl _) (by omega)
  have HW1 := Lib.hid hW1
  have HGG := Lib.hid hg
  have HB1 := Lib.hid hb1
  have HK1 := Lib.hid hk1
  have HP1 := Lib.hid hp1
  have HLN := Lib.hid hln
  have HRL := Lib.hid hrel
  have HND := Lib.hid hnd
  have HKK := Lib.hid hkk
  have HKR := Lib.hid hkr
  have HKA := Lib.hid hkA
  have HHG := Lib.hid hG
  have HWF := Lib.hid hwf
  clear hW1 hg hb1 hk1 hp0 hp1 hln hrel hnd hkk hkr hkA hG hwf
  unfold eP
  go_enter Tryd.func12, Tryd.ntmps12
  go_wp2_with (fail)
  rw [HW1.out, HGG.out]
  refine HLN.out.mono ?_
  rintro e W2 ⟨gl, cl, rfl, hcl, hown, hb2⟩
  have hgl1 : W1.heap.size ≤ gl := own_base hown rfl
  have hgl2 : gl < W2.heap.size := own_lt hown rfl
  have hg1 : g < W1.heap.size := HK1.out.lt
  have hp2 : PM w0 W2 ⟨p, bi, bw, room, T, lv, L, W⟩ ⟨q, room', v, M⟩ (fun i => i = g ∨ i = gl) := HP1.out.grow (But.of_below hb2 _) (fun i hi => Or.elim hi .inl (fun h => .inr ⟨by omega, by omega⟩))
  have hk2 := HK1.out.below hb2 HK1.out.lt
  have htr := takeR_calls W2 (show RAt W2 q room' v M from hp2.ra) (by omega)
  unfold eP at htr
  have HTR := Lib.hid htr
  have HP2 := Lib.hid hp2
  have HB2 := Lib.hid hb2
  clear htr hp2 hb2 hown hk2 hcl
  go_wp2_with (fail)
  refine HTR.out.mono ?_
  rintro e W3 ⟨M', n1, ok1, rfl, htr, hT3⟩
  have hp3 := HP2.out.right (d' := ⟨q, room', v, M'⟩) hT3.but hT3.at_ (fun i hi => .inl (hT3.of i hi))
  have htq := take_calls W3 (show QAt W3 p room T lv bi bw L W from hp3.qa) (by omega)
  unfold eP at htq
  have HTQ := Lib.hid htq
  have HP3 := Lib.hid hp3
  have HT3 := Lib.hid hT3
  have HR3 := Lib.hid htr
  clear htq hp3 hT3 htr
  go_wp2_with (fail)
  refine HTQ.out.mono ?_
  rintro e W4 ⟨L', n2, ok2, rfl, htq, hcore, hq4, hb4⟩
  obtain ⟨rfl, rfl, hrel⟩ := HRL.out.take htq HR3.out
  have hp4 := HP3.out.left (a' := ⟨p, bi, bw, room, T, lv, L', W⟩) hb4 hq4 (fun i hi => .inl (ofq_core hcore hi))
  have hdn := step_done (a := ⟨p, bi, bw, room, T, lv, L, W⟩) (d := ⟨q, room', v, M⟩) (HB1.out.trans (HB2.out.mono HB1.out.size)) HT3.out.but hb4 (But.refl W4 _) (hp4.grow (S' := fun _ => False) (But.refl _ _) (fun i hi => hi.elim)) ⟨hrm, hrel, take_kl HKK.out HR3.out⟩ (fun i hi => .inl (HT3.out.of i hi)) (fun i hi => .inl (ofq_core hcore hi)) rfl rfl (by have := core_len hcore; simp only; omega)
  have HDN := Lib.hid hdn
  clear hdn hp4 hb4 hq4 hcore htq hrel
  cases ok2
  all_goals
    go_wp2
    go_ret
    exact ⟨_, _, by simp, HDN.out⟩
set_option maxRecDepth 100000 in
set_option maxHeartbeats 4000000 in
theorem step3_calls {w0 w : World} {a : QV} {d : RV} {ks : List Key} {A : Option Addr} {c n : Nat} {id : Int} (on kd : Int) (h : StepH w0 w a d id ks A c n) :
    Calls Tryd.prog 12 #[eP a.p, eP d.q, .agg #[.int .i64 on, .int .i64 kd, .int .i64 id, .slice A ks.length c], .int .i64 3] w (StepP w0 w a d) := by
  obtain ⟨p, bi, bw, room, T, lv, L, W⟩ := a
  obtain ⟨q, room', v, M⟩ := d
  have hs := h.same
  have hlen : L.length ≤ n := h.len
  have hnn := h.nn
  have hwf := h.wf
  have hG := h.hG
  obtain ⟨hkr, hkA, hkl⟩ := h.ks
  have hp0 := h.pm
  have hrm : room = room' := hs.room
  have hrel : RelL L M := hs.rel
  have hMl : M.length = L.length := hrel.1.symm
  have hkk : ∀ x ∈ M, x.keys.length ≤ 8796093030000 := hs.kl
  have hnd : (L.map (·.id)).Nodup := (show QAt w p room T lv bi bw L W from hp0.qa).idn
  clear h hs
  obtain ⟨W1, hW1⟩ : ∃ X, w.alloc (.cells #[.int .i64 on, .int .i64 kd, .int .i64 id, .slice A ks.length c] 33) = X := ⟨_, rfl⟩
  obtain ⟨g, hg⟩ : ∃ g, w.heap.size = g := ⟨_, rfl⟩
  have hb1 : Below w.heap.size w W1 := hW1 ▸ (Below.refl _ _).alloc (Nat.le_refl _) _
  have hk1 : Blk W1 g 33 #[.int .i64 on, .int .i64 kd, .int .i64 id, .slice A ks.length c] := hg ▸ hW1 ▸ Blk.new w _ _
  have hp1 : PM w0 W1 ⟨p, bi, bw, room, T, lv, L, W⟩ ⟨q, room', v, M⟩ (fun i => i = g) := hp0.grow (But.of_below hb1 _) (fun i hi => .inr ⟨by rw [hi, ← hg]; exact Nat.le_refl _, hi ▸ hk1.lt⟩)
  have k2 : (w.alloc (.cells #[.int .i64 on, .int .i64 kd, .int .i64 id, .slice A ks.length c] 33)).cell? ⟨w.heap.size, 2, none⟩ = some (.int .i64 id) := (Blk.new w _ _).cell 2
  have k3 : (w.alloc (.cells #[.int .i64 on, .int .i64 kd, .int .i64 id, .slice A ks.length c] 33)).cell? ⟨w.heap.size, 3, none⟩ = some (.slice A ks.length c) := (Blk.new w _ _).cell 3
  have hln := lentKeys_calls ks A c W1.heap.size W1 (hp1.reads hkr) (Nat.le_refl _) (by omega)
  have HW1 := Lib.hid hW1
  have HGG := Lib.hid hg
  have HB1 := Lib.hid hb1
  have HK1 := Lib.hid hk1
  have HP1 := Lib.hid hp1
  have HLN := Lib.hid hln
  have HRL := Lib.hid hrel
  have HND := Lib.hid hnd
  have HKK := Lib.hid hkk
  have HKR := Lib.hid hkr
  have HKA := Lib.hid hkA
  have HHG := Lib.hid hG
  have HWF := Lib.hid hwf
  clear hW1 hg hb1 hk1 hp0 hp1 hln hrel hnd hkk hkr hkA hG hwf
  unfold eP
  go_enter Tryd.func12, Tryd.ntmps12
  go_wp2_with (fail)
  rw [HW1.out, HGG.out]
  refine HLN.out.mono ?_
  rintro e W2 ⟨gl, cl, rfl, hcl, hown, hb2⟩
  have hgl1 : W1.heap.size ≤ gl := own_base hown rfl
  have hgl2 : gl < W2.heap.size := own_lt hown rfl
  have hg1 : g < W1.heap.size := HK1.out.lt
  have hp2 : PM w0 W2 ⟨p, bi, bw, room, T, lv, L, W⟩ ⟨q, room', v, M⟩ (fun i => i = g ∨ i = gl) := HP1.out.grow (But.of_below hb2 _) (fun i hi => Or.elim hi .inl (fun h => .inr ⟨by omega, by omega⟩))
  have hk2 := HK1.out.below hb2 HK1.out.lt
  have kc2 : W2.cell? ⟨g, 2, none⟩ = some (.int .i64 id) := hk2.cell 2
  have htr := backR_calls id W2 (show RAt W2 q room' v M from hp2.ra) (by omega)
  unfold eP at htr
  have HTR := Lib.hid htr
  have HP2 := Lib.hid hp2
  have HB2 := Lib.hid hb2
  have HK2 := Lib.hid hk2
  clear htr hp2 hb2 hown hk2 hcl
  go_wp2_with (fail)
  refine HTR.out.mono ?_
  rintro e W3 ⟨M', ok1, rfl, htr, hT3⟩
  have hk3 := HP2.out.blkR (.inl rfl) hT3.but HK2.out
  have kc3 : W3.cell? ⟨g, 2, none⟩ = some (.int .i64 id) := hk3.cell 2
  have hp3 := HP2.out.right (d' := ⟨q, room', v, M'⟩) hT3.but hT3.at_ (fun i hi => .inl (hT3.of i hi))
  have htq := back_calls id HWF.out W3 (show QAt W3 p room T lv bi bw L W from hp3.qa)
  unfold eP at htq
  have HTQ := Lib.hid htq
  have HP3 := Lib.hid hp3
  have HT3 := Lib.hid hT3
  have HR3 := Lib.hid htr
  clear htq hp3 hT3 htr hk3 kc2
  go_wp2_with (fail)
  refine HTQ.out.mono ?_
  rintro e W4 ⟨L', ok2, rfl, htq, hcore, hq4, hb4⟩
  obtain ⟨rfl, hrel⟩ := HRL.out.back HND.out htq HR3.out
  have hp4 := HP3.out.left (a' := ⟨p, bi, bw, room, T, lv, L', W⟩) hb4 hq4 (fun i hi => .inl (ofq_core hcore hi))
  have hdn := step_done (a := ⟨p, bi, bw, room, T, lv, L, W⟩) (d := ⟨q, room', v, M⟩) (HB1.out.trans (HB2.out.mono HB1.out.size)) HT3.out.but hb4 (But.refl W4 _) (hp4.grow (S' := fun _ => False) (But.refl _ _) (fun i hi => hi.elim)) ⟨hrm, hrel, back_kl HKK.out HR3.out⟩ (fun i hi => .inl (HT3.out.of i hi)) (fun i hi => .inl (ofq_core hcore hi)) rfl rfl (by have := core_len hcore; simp only; omega)
  have HDN := Lib.hid hdn
  clear hdn hp4 hb4 hq4 htq hrel
  cases ok2
  all_goals
    go_wp2
    go_ret
    exact ⟨_, _, by simp, HDN.out⟩
set_option maxRecDepth 100000 in
set_option maxHeartbeats 4000000 in
theorem step4_calls {w0 w : World} {a : QV} {d : RV} {ks : List Key} {A : Option Addr} {c n : Nat} {id : Int} (on kd : Int) (h : StepH w0 w a d id ks A c n) :
    Calls Tryd.prog 12 #[eP a.p, eP d.q, .agg #[.int .i64 on, .int .i64 kd, .int .i64 id, .slice A ks.length c], .int .i64 4] w (StepP w0 w a d) := by
  obtain ⟨p, bi, bw, room, T, lv, L, W⟩ := a
  obtain ⟨q, room', v, M⟩ := d
  have hs := h.same
  have hlen : L.length ≤ n := h.len
  have hnn := h.nn
  have hwf := h.wf
  have hG := h.hG
  obtain ⟨hkr, hkA, hkl⟩ := h.ks
  have hp0 := h.pm
  have hrm : room = room' := hs.room
  have hrel : RelL L M := hs.rel
  have hMl : M.length = L.length := hrel.1.symm
  have hkk : ∀ x ∈ M, x.keys.length ≤ 8796093030000 := hs.kl
  have hnd : (L.map (·.id)).Nodup := (show QAt w p room T lv bi bw L W from hp0.qa).idn
  clear h hs
  obtain ⟨W1, hW1⟩ : ∃ X, w.alloc (.cells #[.int .i64 on, .int .i64 kd, .int .i64 id, .slice A ks.length c] 33) = X := ⟨_, rfl⟩
  obtain ⟨g, hg⟩ : ∃ g, w.heap.size = g := ⟨_, rfl⟩
  have hb1 : Below w.heap.size w W1 := hW1 ▸ (Below.refl _ _).alloc (Nat.le_refl _) _
  have hk1 : Blk W1 g 33 #[.int .i64 on, .int .i64 kd, .int .i64 id, .slice A ks.length c] := hg ▸ hW1 ▸ Blk.new w _ _
  have hp1 : PM w0 W1 ⟨p, bi, bw, room, T, lv, L, W⟩ ⟨q, room', v, M⟩ (fun i => i = g) := hp0.grow (But.of_below hb1 _) (fun i hi => .inr ⟨by rw [hi, ← hg]; exact Nat.le_refl _, hi ▸ hk1.lt⟩)
  have k2 : (w.alloc (.cells #[.int .i64 on, .int .i64 kd, .int .i64 id, .slice A ks.length c] 33)).cell? ⟨w.heap.size, 2, none⟩ = some (.int .i64 id) := (Blk.new w _ _).cell 2
  have k3 : (w.alloc (.cells #[.int .i64 on, .int .i64 kd, .int .i64 id, .slice A ks.length c] 33)).cell? ⟨w.heap.size, 3, none⟩ = some (.slice A ks.length c) := (Blk.new w _ _).cell 3
  have hln := lentKeys_calls ks A c W1.heap.size W1 (hp1.reads hkr) (Nat.le_refl _) (by omega)
  have HW1 := Lib.hid hW1
  have HGG := Lib.hid hg
  have HB1 := Lib.hid hb1
  have HK1 := Lib.hid hk1
  have HP1 := Lib.hid hp1
  have HLN := Lib.hid hln
  have HRL := Lib.hid hrel
  have HND := Lib.hid hnd
  have HKK := Lib.hid hkk
  have HKR := Lib.hid hkr
  have HKA := Lib.hid hkA
  have HHG := Lib.hid hG
  have HWF := Lib.hid hwf
  clear hW1 hg hb1 hk1 hp0 hp1 hln hrel hnd hkk hkr hkA hG hwf
  unfold eP
  go_enter Tryd.func12, Tryd.ntmps12
  go_wp2_with (fail)
  rw [HW1.out, HGG.out]
  refine HLN.out.mono ?_
  rintro e W2 ⟨gl, cl, rfl, hcl, hown, hb2⟩
  have hgl1 : W1.heap.size ≤ gl := own_base hown rfl
  have hgl2 : gl < W2.heap.size := own_lt hown rfl
  have hg1 : g < W1.heap.size := HK1.out.lt
  have hp2 : PM w0 W2 ⟨p, bi, bw, room, T, lv, L, W⟩ ⟨q, room', v, M⟩ (fun i => i = g ∨ i = gl) := HP1.out.grow (But.of_below hb2 _) (fun i hi => Or.elim hi .inl (fun h => .inr ⟨by omega, by omega⟩))
  have hk2 := HK1.out.below hb2 HK1.out.lt
  have kc2 : W2.cell? ⟨g, 2, none⟩ = some (.int .i64 id) := hk2.cell 2
  have htr := remvR_calls id W2 (show RAt W2 q room' v M from hp2.ra) (by omega)
  unfold eP at htr
  have HTR := Lib.hid htr
  have HP2 := Lib.hid hp2
  have HB2 := Lib.hid hb2
  have HK2 := Lib.hid hk2
  clear htr hp2 hb2 hown hk2 hcl
  go_wp2_with (fail)
  refine HTR.out.mono ?_
  rintro e W3 ⟨M', v', ok1, rfl, htr, hT3⟩
  have hk3 := HP2.out.blkR (.inl rfl) hT3.but HK2.out
  have kc3 : W3.cell? ⟨g, 2, none⟩ = some (.int .i64 id) := hk3.cell 2
  have hp3 := HP2.out.right (d' := ⟨q, room', v', M'⟩) hT3.but hT3.at_ hT3.of
  have htq := remove_calls id HWF.out W3 (show QAt W3 p room T lv bi bw L W from hp3.qa) (by omega)
  unfold eP at htq
  have HTQ := Lib.hid htq
  have HP3 := Lib.hid hp3
  have HT3 := Lib.hid hT3
  have HR3 := Lib.hid htr
  clear htq hp3 hT3 htr hk3 kc2
  go_wp2_with (fail)
  refine HTQ.out.mono ?_
  rintro e W4 ⟨L', lv', W', ok2, rfl, htq, hq4, hb4, hnew⟩
  obtain ⟨rfl, hrel⟩ := HRL.out.remove HND.out htq HR3.out
  have hp4 := HP3.out.left (a' := ⟨p, bi, bw, room, T, lv', L', W'⟩) hb4 hq4 hnew
  have hdn := step_done (a := ⟨p, bi, bw, room, T, lv, L, W⟩) (d := ⟨q, room', v, M⟩) (HB1.out.trans (HB2.out.mono HB1.out.size)) HT3.out.but hb4 (But.refl W4 _) (hp4.grow (S' := fun _ => False) (But.refl _ _) (fun i hi => hi.elim)) ⟨hrm, hrel, remv_kl HKK.out HR3.out⟩ HT3.out.of hnew rfl rfl (by rcases htq with ⟨_, h, _⟩ | ⟨k, hk, _, _, h⟩ <;> (simp only [h]; first | omega | (exact Nat.le_succ_of_le (List.length_eraseIdx_le _ _))))
  have HDN := Lib.hid hdn
  clear hdn hp4 hb4 hq4 htq hrel
  cases ok2
  all_goals
    go_wp2
    go_ret
    exact ⟨_, _, by simp, HDN.out⟩
set_option maxRecDepth 100000 in
set_option maxHeartbeats 4000000 in
theorem step5_calls {w0 w : World} {a : QV} {d : RV} {ks : List Key} {A : Option Addr} {c n : Nat} {id : Int} (on kd : Int) (h : StepH w0 w a d id ks A c n) :
    Calls Tryd.prog 12 #[eP a.p, eP d.q, .agg #[.int .i64 on, .int .i64 kd, .int .i64 id, .slice A ks.length c], .int .i64 5] w (StepP w0 w a d) := by
  obtain ⟨p, bi, bw, room, T, lv, L, W⟩ := a
  obtain ⟨q, room', v, M⟩ := d
  have hs := h.same
  have hlen : L.length ≤ n := h.len
  have hnn := h.nn
  have hwf := h.wf
  have hG := h.hG
  obtain ⟨hkr, hkA, hkl⟩ := h.ks
  have hp0 := h.pm
  have hrm : room = room' := hs.room
  have hrel : RelL L M := hs.rel
  have hMl : M.length = L.length := hrel.1.symm
  have hkk : ∀ x ∈ M, x.keys.length ≤ 8796093030000 := hs.kl
  have hnd : (L.map (·.id)).Nodup := (show QAt w p room T lv bi bw L W from hp0.qa).idn
  clear h hs
  obtain ⟨W1, hW1⟩ : ∃ X, w.alloc (.cells #[.int .i64 on, .int .i64 kd, .int .i64 id, .slice A ks.length c] 33) = X := ⟨_, rfl⟩
  obtain ⟨g, hg⟩ : ∃ g, w.heap.size = g := ⟨_, rfl⟩
  have hb1 : Below w.heap.size w W1 := hW1 ▸ (Below.refl _ _).alloc (Nat.le_refl _) _
  have hk1 : Blk W1 g 33 #[.int .i64 on, .int .i64 kd, .int .i64 id, .slice A ks.length c] := hg ▸ hW1 ▸ Blk.new w _ _
  have hp1 : PM w0 W1 ⟨p, bi, bw, room, T, lv, L, W⟩ ⟨q, room', v, M⟩ (fun i => i = g) := hp0.grow (But.of_below hb1 _) (fun i hi => .inr ⟨by rw [hi, ← hg]; exact Nat.le_refl _, hi ▸ hk1.lt⟩)
  have k2 : (w.alloc (.cells #[.int .i64 on, .int .i64 kd, .int .i64 id, .slice A ks.length c] 33)).cell? ⟨w.heap.size, 2, none⟩ = some (.int .i64 id) := (Blk.new w _ _).cell 2
  have k3 : (w.alloc (.cells #[.int .i64 on, .int .i64 kd, .int .i64 id, .slice A ks.length c] 33)).cell? ⟨w.heap.size, 3, none⟩ = some (.slice A ks.length c) := (Blk.new w _ _).cell 3
  have hln := lentKeys_calls ks A c W1.heap.size W1 (hp1.reads hkr) (Nat.le_refl _) (by omega)
  have HW1 := Lib.hid hW1
  have HGG := Lib.hid hg
  have HB1 := Lib.hid hb1
  have HK1 := Lib.hid hk1
  have HP1 := Lib.hid hp1
  have HLN := Lib.hid hln
  have HRL := Lib.hid hrel
  have HND := Lib.hid hnd
  have HKK := Lib.hid hkk
  have HKR := Lib.hid hkr
  have HKA := Lib.hid hkA
  have HHG := Lib.hid hG
  have HWF := Lib.hid hwf
  clear hW1 hg hb1 hk1 hp0 hp1 hln hrel hnd hkk hkr hkA hG hwf
  unfold eP
  go_enter Tryd.func12, Tryd.ntmps12
  go_wp2_with (fail)
  rw [HW1.out, HGG.out]
  refine HLN.out.mono ?_
  rintro e W2 ⟨gl, cl, rfl, hcl, hown, hb2⟩
  have hgl1 : W1.heap.size ≤ gl := own_base hown rfl
  have hgl2 : gl < W2.heap.size := own_lt hown rfl
  have hg1 : g < W1.heap.size := HK1.out.lt
  have hp2 : PM w0 W2 ⟨p, bi, bw, room, T, lv, L, W⟩ ⟨q, room', v, M⟩ (fun i => i = g ∨ i = gl) := HP1.out.grow (But.of_below hb2 _) (fun i hi => Or.elim hi .inl (fun h => .inr ⟨by omega, by omega⟩))
  have hk2 := HK1.out.below hb2 HK1.out.lt
  have hq2 : QAt W2 p room T lv bi bw L W := hp2.qa
  have hr2 : RAt W2 q room' v M := hp2.ra
  obtain ⟨VA, vc, rfl⟩ := row_slice hr2.row
  have r1 : W2.cell? ⟨q, 1, none⟩ = some (.slice VA M.length vc) := hr2.blk.cell 1
  have hdrn : ∀ n, Below W2.heap.size W2 (W2.drewN n) := fun n => below_drewN (Below.refl _ _) _
  have hc1 : ∀ n, Calls Tryd.prog 16 #[eP p] (W2.drewN n) fun e w' => e = .returned (.int .i64 M.length) ∧ ∃ m, w' = W2.drewN m := fun n => (len_calls _ (hq2.below (hdrn n))).mono (fun e w' h => ⟨by rw [h.1, hMl], n, h.2⟩)
  have hc2 : ∀ n, Calls Tryd.prog 17 #[eP p] (W2.drewN n) fun e w' => e = .returned (.bool (decide (room' ≤ M.length))) ∧ ∃ m, w' = W2.drewN m := fun n => (full_draws _ (hq2.below (hdrn n))).mono (fun e w' h => ⟨by rw [h.1, hMl, hrm], by obtain ⟨m, hm⟩ := h.2; exact ⟨n + m, by rw [hm]; simp [World.drewN, Nat.add_assoc]⟩⟩)
  have hc3 : ∀ n, Calls Tryd.prog 18 #[eP q] (W2.drewN n) fun e w' => e = .returned (.bool (decide (room' ≤ M.length))) ∧ ∃ m, w' = W2.drewN m := fun n => (fullR_calls _ (hr2.below (hdrn n))).mono (fun e w' h => ⟨h.1, by obtain ⟨m, hm⟩ := h.2; exact ⟨n + m, by rw [hm]; simp [World.drewN, Nat.add_assoc]⟩⟩)
  obtain ⟨fb, hfb⟩ : ∃ fb, decide (room' ≤ (M.length : Int)) = fb := ⟨_, rfl⟩
  rw [hfb] at hc2 hc3
  have hdn := fun n => step_done (a := ⟨p, bi, bw, room, T, lv, L, W⟩) (d := ⟨q, room', .slice VA M.length vc, M⟩) (HB1.out.trans (hb2.mono HB1.out.size)) (But.refl W2 _) (But.refl W2 _) (But.of_below (hdrn n) _) ((hp2.grow (S' := fun _ => False) (But.refl _ _) (fun i hi => hi.elim)).below (hdrn n)) ⟨hrm, HRL.out, HKK.out⟩ (fun i hi => .inl hi) (fun i hi => .inl hi) rfl rfl (Nat.le_succ _)
  unfold eP at hc1 hc2 hc3
  have HC1 := Lib.hid hc1
  have HC2 := Lib.hid hc2
  have HC3 := Lib.hid hc3
  have HDN := Lib.hid hdn
  clear hc1 hc2 hc3 hdn hdrn hq2 hr2 hfb hp2 hb2 hown hk2 hcl
  cases fb
  all_goals
    go_wp2_with (fail)
    go_quiet ((first | (go_at_call 16; with_reducible exact HC1.out _) | (go_at_call 17; with_reducible exact HC2.out _) | (go_at_call 18; with_reducible exact HC3.out _)))
    go_wp2
    go_ret
    exact ⟨_, _, by simp, HDN.out _⟩
set_option maxRecDepth 100000 in
set_option maxHeartbeats 4000000 in
theorem step1_calls {w0 w : World} {a : QV} {d : RV} {ks : List Key} {A : Option Addr} {c n : Nat} {id : Int} (on kd : Int) (h : StepH w0 w a d id ks A c n) :
    Calls Tryd.prog 12 #[eP a.p, eP d.q, .agg #[.int .i64 on, .int .i64 kd, .int .i64 id, .slice A ks.length c], .int .i64 1] w (StepP w0 w a d) := by
  obtain ⟨p, bi, bw, room, T, lv, L, W⟩ := a
  obtain ⟨q, room', v, M⟩ := d
  have hs := h.same
  have hlen : L.length ≤ n := h.len
  have hnn := h.nn
  have hwf := h.wf
  have hG := h.hG
  obtain ⟨hkr, hkA, hkl⟩ := h.ks
  have hp0 := h.pm
  have hrm : room = room' := hs.room
  have hrel : RelL L M := hs.rel
  have hMl : M.length = L.length := hrel.1.symm
  have hkk : ∀ x ∈ M, x.keys.length ≤ 8796093030000 := hs.kl
  have hnd : (L.map (·.id)).Nodup := (show QAt w p room T lv bi bw L W from hp0.qa).idn
  clear h hs
  obtain ⟨W1, hW1⟩ : ∃ X, w.alloc (.cells #[.int .i64 on, .int .i64 kd, .int .i64 id, .slice A ks.length c] 33) = X := ⟨_, rfl⟩
  obtain ⟨g, hg⟩ : ∃ g, w.heap.size = g := ⟨_, rfl⟩
  have hb1 : Below w.heap.size w W1 := hW1 ▸ (Below.refl _ _).alloc (Nat.le_refl _) _
  have hk1 : Blk W1 g 33 #[.int .i64 on, .int .i64 kd, .int .i64 id, .slice A ks.length c] := hg ▸ hW1 ▸ Blk.new w _ _
  have hp1 : PM w0 W1 ⟨p, bi, bw, room, T, lv, L, W⟩ ⟨q, room', v, M⟩ (fun i => i = g) := hp0.grow (But.of_below hb1 _) (fun i hi => .inr ⟨by rw [hi, ← hg]; exact Nat.le_refl _, hi ▸ hk1.lt⟩)
  have k2 : (w.alloc (.cells #[.int .i64 on, .int .i64 kd, .int .i64 id, .slice A ks.length c] 33)).cell? ⟨w.heap.size, 2, none⟩ = some (.int .i64 id) := (Blk.new w _ _).cell 2
  have k3 : (w.alloc (.cells #[.int .i64 on, .int .i64 kd, .int .i64 id, .slice A ks.length c] 33)).cell? ⟨w.heap.size, 3, none⟩ = some (.slice A ks.length c) := (Blk.new w _ _).cell 3
  have hln := lentKeys_calls ks A c W1.heap.size W1 (hp1.reads hkr) (Nat.le_refl _) (by omega)
  have HW1 := Lib.hid hW1
  have HGG := Lib.hid hg
  have HB1 := Lib.hid hb1
  have HK1 := Lib.hid hk1
  have HP1 := Lib.hid hp1
  have HLN := Lib.hid hln
  have HRL := Lib.hid hrel
  have HND := Lib.hid hnd
  have HKK := Lib.hid hkk
  have HKR := Lib.hid hkr
  have HKA := Lib.hid hkA
  have HHG := Lib.hid hG
  have HWF := Lib.hid hwf
  clear hW1 hg hb1 hk1 hp0 hp1 hln hrel hnd hkk hkr hkA hG hwf
  unfold eP
  go_enter Tryd.func12, Tryd.ntmps12
  go_wp2_with (fail)
  rw [HW1.out, HGG.out]
  refine HLN.out.mono ?_
  rintro e W2 ⟨gl, cl, rfl, hcl, hown, hb2⟩
  have hgl1 : W1.heap.size ≤ gl := own_base hown rfl
  have hgl2 : gl < W2.heap.size := own_lt hown rfl
  have hg1 : g < W1.heap.size := HK1.out.lt
  have hp2 : PM w0 W2 ⟨p, bi, bw, room, T, lv, L, W⟩ ⟨q, room', v, M⟩ (fun i => i = g ∨ i = gl) := HP1.out.grow (But.of_below hb2 _) (fun i hi => Or.elim hi .inl (fun h => .inr ⟨by omega, by omega⟩))
  have hk2 := HK1.out.below hb2 HK1.out.lt
  have kc2 : W2.cell? ⟨g, 3, none⟩ = some (.slice A ks.length c) := hk2.cell 3
  have htr := touchR_calls ks A c W2 (show RAt W2 q room' v M from hp2.ra) (hp2.readsR HKR.out) (by omega) (by omega) (fun x hx => Nat.le_trans (HKK.out x hx) (by decide))
  unfold eP at htr
  have HTR := Lib.hid htr
  have HP2 := Lib.hid hp2
  have HB2 := Lib.hid hb2
  have HK2 := Lib.hid hk2
  have HOW := Lib.hid hown
  clear htr hp2 hb2 hk2 hown
  go_wp2_with (fail)
  refine HTR.out.mono ?_
  rintro e W3 ⟨rfl, hT3⟩
  have hk3 := HP2.out.blkR (.inl rfl) hT3.but HK2.out
  have hown3 := HP2.out.ownR (fun b hb => .inr (by injection hb with hb; exact hb.symm)) hT3.but HOW.out
  have hp3 := HP2.out.right (d' := ⟨q, room', v, M.map (RE.touch ks)⟩) hT3.but hT3.at_ (fun i hi => .inl (hT3.of i hi))
  have htq := touch_calls ks (some ⟨gl, 0, none⟩) cl W3 (show QAt W3 p room T lv bi bw L W from hp3.qa) (fun w' hb => reads_pre19 (Reads.of_own (hp3.ownQ (fun b hb => .inr (by injection hb with hb; exact hb.symm)) hb hown3)) (by rw [markKeyss_len])) (by omega) (by omega)
  unfold eP at htq
  have HTQ := Lib.hid htq
  have HP3 := Lib.hid hp3
  have HT3 := Lib.hid hT3
  have HK3 := Lib.hid hk3
  have HO3 := Lib.hid hown3
  clear htq hp3 hT3 hk3 hown3 kc2
  go_wp2_with (fail)
  refine HTQ.out.mono ?_
  rintro e W5 ⟨rfl, hq4, hb4⟩
  obtain ⟨hrel, hfr⟩ := HRL.out.touch ks
  have hof : ∀ i, OfQ p lv bi bw (turnBy L (fun e => meets e.keys ks)) W i → OfQ p lv bi bw L W i := fun i hi => ofq_core (turnBy_core L _) hi
  have hp5 := HP3.out.left (a' := ⟨p, bi, bw, room, T, lv, turnBy L (fun e => meets e.keys ks), W⟩) hb4 hq4 (fun i hi => .inl (hof i hi))
  have hk5 := HP3.out.blkQ (.inl rfl) hb4 HK3.out
  have hown5 := HP3.out.ownQ (fun b hb => .inr (by injection hb with hb; exact hb.symm)) hb4 HO3.out
  have hdn : ∀ W6 W7 : World, Below W5.heap.size W5 W6 → But W6 W7 (fun i => i = gl) → PM w0 W7 ⟨p, bi, bw, room, T, lv, turnBy L (fun e => meets e.keys ks), W⟩ ⟨q, room', v, M.map (RE.touch ks)⟩ (fun _ => False) → StepR w0 w W7 ⟨p, bi, bw, room, T, lv, L, W⟩ ⟨q, room', v, M⟩ ⟨p, bi, bw, room, T, lv, turnBy L (fun e => meets e.keys ks), W⟩ ⟨q, room', v, M.map (RE.touch ks)⟩ := fun W6 W7 h6 h7 hp =>
    step_done (a := ⟨p, bi, bw, room, T, lv, L, W⟩) (d := ⟨q, room', v, M⟩) (HB1.out.trans (HB2.out.mono HB1.out.size)) HT3.out.but hb4 ((But.of_below h6 _).trans h7 (fun i hi e => by rw [show i = gl from e]; exact Nat.le_trans HB1.out.size hgl1)) hp ⟨hrm, hrel, touch_kl HKK.out⟩ (fun i hi => .inl (HT3.out.of i hi)) (fun i hi => .inl (hof i hi)) rfl rfl (by simp [turnBy])
  have HDN0 := Lib.hid hdn
  have HFR := Lib.hid hfr
  rw [hfr]
  clear hdn hfr hrel hof hq4 hb4
  -- kept, and written over
  have kc5 : W5.cell? ⟨g, 3, none⟩ = some (.slice A ks.length c) := hk5.cell 3
  have hkp := keptKeys_calls ks gl A cl c W5.heap.size W5 (Reads.of_own hown5) hcl (hp5.reads HKR.out) (Nat.le_refl _) (by omega)
  have HKP := Lib.hid hkp
  have HP5 := Lib.hid hp5
  have HO5 := Lib.hid hown5
  clear hkp hp5 hown5 hk5
  go_wp2_with (fail)
  refine HKP.out.mono ?_
  rintro e W6 ⟨rfl, hb6⟩
  have hown6 := own_but (row_weak HO5.out (Nat.zero_le _)) (But.of_below hb6 (fun _ => False)) (fun _ _ h => h)
  have hp6 := HP5.out.below hb6
  have HO6 := Lib.hid hown6
  have HP6 := Lib.hid hp6
  have HB6 := Lib.hid hb6
  clear hown6 hp6 hb6
  go_wp2_with (fail)
  go_loopw [19] (fun i wr => ∃ k : Nat, k ≤ ks.length ∧ i = .int .i64 k ∧ (∃ xs, wr.ownsRow 0 48 2 (.slice (some ⟨gl, 0, none⟩) (ks.length + 16) cl) (ks.length + 16) xs) ∧ But W6 wr (fun i => i = gl)) (fun i _ => ks.length - (intOf i).toNat)
  case atStart => exact ⟨0, Nat.zero_le _, rfl, ⟨_, HO6.out⟩, But.refl _ _⟩
  case round =>
    obtain ⟨k, hk, rfl, ⟨xs, hO⟩, hB⟩ := hrel
    by_cases hlt : k < ks.length
    · have hkl2 : (k : Int) < ks.length := by omega
      obtain ⟨u0, z0⟩ := row_there hO (i := k * 2) (by omega)
      obtain ⟨u1, z1⟩ := row_there hO (i := k * 2 + 1) (by omega)
      have f0 := row_frozen hO (k * 2)
      have f1 := row_frozen hO (k * 2 + 1)
      have hO2 := row_setN (row_setN hO (k * 2) (.int .i64 (-3))) (k * 2 + 1) (.int .i64 (-3))
      have hB2 : But W6 ((wr.setCell ⟨gl, k * 2, none⟩ (.int .i64 (-3))).setCell ⟨gl, k * 2 + 1, none⟩ (.int .i64 (-3))) (fun i => i = gl) := (hB.setCell (p := ⟨gl, k * 2, none⟩) (fun _ => rfl) _).setCell (p := ⟨gl, k * 2 + 1, none⟩) (fun _ => rfl) _
      have HO2 := Lib.hid hO2
      have HB2B := Lib.hid hB2
      clear hO hB hO2 hB2
      go_wp2
      go_roundw
      case rel => exact ⟨k + 1, by omega, by go_num, ⟨_, HO2.out⟩, HB2B.out⟩
      case measure => simp [intOf]; omega
    · obtain rfl : k = ks.length := by omega
      have hdn := HDN0.out W6 wr HB6.out hB (HP6.out.grow (S' := fun _ => False) (hB.weak (fun i _ h => .inr h)) (fun i hi => hi.elim))
      have HDN2 := Lib.hid hdn
      clear hdn
      go_wp2
      go_ret
      exact ⟨_, _, rfl, HDN2.out⟩
set_option maxRecDepth 100000 in
set_option maxHeartbeats 4000000 in
theorem step0_calls {w0 w : World} {a : QV} {d : RV} {ks : List Key} {A : Option Addr} {c n : Nat} {id : Int} (on kd : Int) (h : StepH w0 w a d id ks A c n) :
    Calls Tryd.prog 12 #[eP a.p, eP d.q, .agg #[.int .i64 on, .int .i64 kd, .int .i64 id, .slice A ks.length c], .int .i64 0] w (StepP w0 w a d) := by
  obtain ⟨p, bi, bw, room, T, lv, L, W⟩ := a
  obtain ⟨q, room', v, M⟩ := d
  have hs := h.same
  have hlen : L.length ≤ n := h.len
  have hnn := h.nn
  have hwf := h.wf
  have hG := h.hG
  obtain ⟨hkr, hkA, hkl⟩ := h.ks
  have hp0 := h.pm
  have hrm : room = room' := hs.room
  have hrel : RelL L M := hs.rel
  have hMl : M.length = L.length := hrel.1.symm
  have hkk : ∀ x ∈ M, x.keys.length ≤ 8796093030000 := hs.kl
  have hnd : (L.map (·.id)).Nodup := (show QAt w p room T lv bi bw L W from hp0.qa).idn
  clear h hs
  obtain ⟨W1, hW1⟩ : ∃ X, w.alloc (.cells #[.int .i64 on, .int .i64 kd, .int .i64 id, .slice A ks.length c] 33) = X := ⟨_, rfl⟩
  obtain ⟨g, hg⟩ : ∃ g, w.heap.size = g := ⟨_, rfl⟩
  have hb1 : Below w.heap.size w W1 := hW1 ▸ (Below.refl _ _).alloc (Nat.le_refl _) _
  have hk1 : Blk W1 g 33 #[.int .i64 on, .int .i64 kd, .int .i64 id, .slice A ks.length c] := hg ▸ hW1 ▸ Blk.new w _ _
  have hp1 : PM w0 W1 ⟨p, bi, bw, room, T, lv, L, W⟩ ⟨q, room', v, M⟩ (fun i => i = g) := hp0.grow (But.of_below hb1 _) (fun i hi => .inr ⟨by rw [hi, ← hg]; exact Nat.le_refl _, hi ▸ hk1.lt⟩)
  have k2 : (w.alloc (.cells #[.int .i64 on, .int .i64 kd, .int .i64 id, .slice A ks.length c] 33)).cell? ⟨w.heap.size, 2, none⟩ = some (.int .i64 id) := (Blk.new w _ _).cell 2
  have k3 : (w.alloc (.cells #[.int .i64 on, .int .i64 kd, .int .i64 id, .slice A ks.length c] 33)).cell? ⟨w.heap.size, 3, none⟩ = some (.slice A ks.length c) := (Blk.new w _ _).cell 3
  have hln := lentKeys_calls ks A c W1.heap.size W1 (hp1.reads hkr) (Nat.le_refl _) (by omega)
  have HW1 := Lib.hid hW1
  have HGG := Lib.hid hg
  have HB1 := Lib.hid hb1
  have HK1 := Lib.hid hk1
  have HP1 := Lib.hid hp1
  have HLN := Lib.hid hln
  have HRL := Lib.hid hrel
  have HND := Lib.hid hnd
  have HKK := Lib.hid hkk
  have HKR := Lib.hid hkr
  have HKA := Lib.hid hkA
  have HHG := Lib.hid hG
  have HWF := Lib.hid hwf
  clear hW1 hg hb1 hk1 hp0 hp1 hln hrel hnd hkk hkr hkA hG hwf
  unfold eP
  go_enter Tryd.func12, Tryd.ntmps12
  go_wp2_with (fail)
  rw [HW1.out, HGG.out]
  refine HLN.out.mono ?_
  rintro e W2 ⟨gl, cl, rfl, hcl, hown, hb2⟩
  have hgl1 : W1.heap.size ≤ gl := own_base hown rfl
  have hgl2 : gl < W2.heap.size := own_lt hown rfl
  have hg1 : g < W1.heap.size := HK1.out.lt
  have hp2 : PM w0 W2 ⟨p, bi, bw, room, T, lv, L, W⟩ ⟨q, room', v, M⟩ (fun i => i = g ∨ i = gl) := HP1.out.grow (But.of_below hb2 _) (fun i hi => Or.elim hi .inl (fun h => .inr ⟨by omega, by omega⟩))
  have hk2 := HK1.out.below hb2 HK1.out.lt
  have kc2 : W2.cell? ⟨g, 2, none⟩ = some (.int .i64 id) := hk2.cell 2
  have kc2b : W2.cell? ⟨g, 3, none⟩ = some (.slice A ks.length c) := hk2.cell 3
  have htr := putR_calls id ks A c W2 (show RAt W2 q room' v M from hp2.ra) (hp2.reads HKR.out) (by omega) (by omega)
  unfold eP at htr
  have HTR := Lib.hid htr
  have HP2 := Lib.hid hp2
  have HB2 := Lib.hid hb2
  have HK2 := Lib.hid hk2
  have HOW := Lib.hid hown
  clear htr hp2 hb2 hk2 hown
  go_wp2_with (fail)
  refine HTR.out.mono ?_
  rintro e W3 ⟨M', v', rfl, hT3, hrn, hry⟩
  have hk3 := HP2.out.blkR (.inl rfl) hT3.but HK2.out
  have kc3 : W3.cell? ⟨g, 2, none⟩ = some (.int .i64 id) := hk3.cell 2
  have hown3 := HP2.out.ownR (fun b hb => .inr (by injection hb with hb; exact hb.symm)) hT3.but HOW.out
  have hp3 := HP2.out.right (d' := ⟨q, room', v', M'⟩) hT3.but hT3.at_ hT3.of
  have htq := put_calls id HWF.out ks (some ⟨gl, 0, none⟩) cl W3 (show QAt W3 p room T lv bi bw L W from hp3.qa) (fun w' hb => reads_pre19 (Reads.of_own (hp3.ownQ (fun b hb => .inr (by injection hb with hb; exact hb.symm)) hb hown3)) (by rw [markKeyss_len])) (fun h => by cases h) (by omega) (by omega)
  unfold eP at htq
  have HTQ := Lib.hid htq
  have HP3 := Lib.hid hp3
  have HT3 := Lib.hid hT3
  have HK3 := Lib.hid hk3
  have HO3 := Lib.hid hown3
  have HRN := Lib.hid hrn
  have HRY := Lib.hid hry
  clear htq hp3 hT3 hk3 hown3 kc2 kc2b hrn hry
  go_wp2_with (fail)
  refine HTQ.out.mono ?_
  rintro e W4 ⟨L', T', lv', W', rfl, hPQ⟩
  have hpe := HRL.out.put_eq room id
  rw [hrm] at hpe
  obtain ⟨hrel, hll, hkl5⟩ := put_rel HRL.out (ks := ks) (id := id) (room := room') (L' := L') (M' := M') (by rw [← hrm]; exact hPQ.no) (by rw [← hrm]; exact hPQ.yes) HRN.out HRY.out (B := 8796093030000) HKK.out (by omega)
  have hp4 := HP3.out.left (a' := ⟨p, bi, bw, room, T', lv', L', W'⟩) hPQ.but hPQ.q hPQ.new
  have hk4 := HP3.out.blkQ (.inl rfl) hPQ.but HK3.out
  have hown4 := HP3.out.ownQ (fun b hb => .inr (by injection hb with hb; exact hb.symm)) hPQ.but HO3.out
  have hpl := plain_errV (putN L room id) (putRN M room' id) W4 (putN_bounds L room id).1 (putN_bounds L room id).2 (hp4.hg HHG.out)
  rw [hrm, hpe, beq_self_eq_true] at hpl
  rw [hrm, hpe]
  have HPL := Lib.hid hpl
  have hdn : ∀ W6 W7 : World, Below W4.heap.size W4 W6 → But W6 W7 (fun i => i = gl) → PM w0 W7 ⟨p, bi, bw, room, T', lv', L', W'⟩ ⟨q, room', v', M'⟩ (fun _ => False) → StepR w0 w W7 ⟨p, bi, bw, room, T, lv, L, W⟩ ⟨q, room', v, M⟩ ⟨p, bi, bw, room, T', lv', L', W'⟩ ⟨q, room', v', M'⟩ := fun W6 W7 h6 h7 hp =>
    step_done (a := ⟨p, bi, bw, room, T, lv, L, W⟩) (d := ⟨q, room', v, M⟩) (HB1.out.trans (HB2.out.mono HB1.out.size)) HT3.out.but hPQ.but ((But.of_below h6 _).trans h7 (fun i hi e => by rw [show i = gl from e]; exact Nat.le_trans HB1.out.size hgl1)) hp ⟨hrm, hrel, hkl5⟩ HT3.out.of hPQ.new rfl rfl hll
  have HDN1 := Lib.hid hdn
  have HP4 := Lib.hid hp4
  have HK4 := Lib.hid hk4
  have HO4 := Lib.hid hown4
  clear hpe hpl hp4 hk4 hown4 hdn hrel hll hkl5 hPQ
  go_wp2_with (fail)
  refine HPL.out.mono ?_
  rintro e W5 ⟨rfl, hb5⟩
  have hp5 := HP4.out.below hb5
  have hk5 := HK4.out.below hb5 HK4.out.lt
  have hown5 := own_but HO4.out (But.of_below hb5 (fun _ => False)) (fun _ _ h => h)
  have HB5 := Lib.hid hb5
  clear hb5
  -- kept, and written over
  have kc5 : W5.cell? ⟨g, 3, none⟩ = some (.slice A ks.length c) := hk5.cell 3
  have hkp := keptKeys_calls ks gl A cl c W5.heap.size W5 (Reads.of_own hown5) hcl (hp5.reads HKR.out) (Nat.le_refl _) (by omega)
  have HKP := Lib.hid hkp
  have HP5 := Lib.hid hp5
  have HO5 := Lib.hid hown5
  clear hkp hp5 hown5 hk5
  go_wp2_with (fail)
  refine HKP.out.mono ?_
  rintro e W6 ⟨rfl, hb6⟩
  have hown6 := own_but (row_weak HO5.out (Nat.zero_le _)) (But.of_below hb6 (fun _ => False)) (fun _ _ h => h)
  have hp6 := HP5.out.below hb6
  have HO6 := Lib.hid hown6
  have HP6 := Lib.hid hp6
  have HB6 := Lib.hid hb6
  clear hown6 hp6 hb6
  go_wp2_with (fail)
  go_loopw [19] (fun i wr => ∃ k : Nat, k ≤ ks.length ∧ i = .int .i64 k ∧ (∃ xs, wr.ownsRow 0 48 2 (.slice (some ⟨gl, 0, none⟩) (ks.length + 16) cl) (ks.length + 16) xs) ∧ But W6 wr (fun i => i = gl)) (fun i _ => ks.length - (intOf i).toNat)
  case atStart => exact ⟨0, Nat.zero_le _, rfl, ⟨_, HO6.out⟩, But.refl _ _⟩
  case round =>
    obtain ⟨k, hk, rfl, ⟨xs, hO⟩, hB⟩ := hrel
    by_cases hlt : k < ks.length
    · have hkl2 : (k : Int) < ks.length := by omega
      obtain ⟨u0, z0⟩ := row_there hO (i := k * 2) (by omega)
      obtain ⟨u1, z1⟩ := row_there hO (i := k * 2 + 1) (by omega)
      have f0 := row_frozen hO (k * 2)
      have f1 := row_frozen hO (k * 2 + 1)
      have hO2 := row_setN (row_setN hO (k * 2) (.int .i64 (-3))) (k * 2 + 1) (.int .i64 (-3))
      have hB2 : But W6 ((wr.setCell ⟨gl, k * 2, none⟩ (.int .i64 (-3))).setCell ⟨gl, k * 2 + 1, none⟩ (.int .i64 (-3))) (fun i => i = gl) := (hB.setCell (p := ⟨gl, k * 2, none⟩) (fun _ => rfl) _).setCell (p := ⟨gl, k * 2 + 1, none⟩) (fun _ => rfl) _
      have HO2 := Lib.hid hO2
      have HB2B := Lib.hid hB2
      clear hO hB hO2 hB2
      go_wp2
      go_roundw
      case rel => exact ⟨k + 1, by omega, by go_num, ⟨_, HO2.out⟩, HB2B.out⟩
      case measure => simp [intOf]; omega
    · obtain rfl : k = ks.length := by omega
      have hdn := HDN1.out W6 wr (below_after HB5.out HB6.out) hB (HP6.out.grow (S' := fun _ => False) (hB.weak (fun i _ h => .inr h)) (fun i hi => hi.elim))
      have HDN2 := Lib.hid hdn
      clear hdn
      go_wp2
      go_ret
      exact ⟨_, _, rfl, HDN2.out⟩
end Go.Proofs.YtmcknfpohnobdaaDoor
