/- Queue: Put by a contract. -/
import Derived.Test.YtmcknfpohnobdaaDoorQ5
import Derived.RegionTactic
import Derived.WalkSpells
namespace Go.Proofs.YtmcknfpohnobdaaDoor
set_option linter.unusedSimpArgs false
set_option linter.unusedVariables false
open Go.RowKit Go.MapKept Go.ChangeMaps Go.Maps

theorem infoQPtr : (Tryd.prog.info? 63).map (fun i => (i.zero, i.size, i.bytes)) = some (some (.pointer none), 1, 8) := by kernel_rfl
noncomputable def putN (L : List Ent) (room id : Int) : Int := if (∃ e ∈ L, e.id = id) then 11 else if room ≤ L.length then 20 else 0
/-- What Put answers and leaves. -/
structure PutQ (w w' : World) (p : Nat) (room : Int) (lv : Value) (bi bw : Nat) (L : List Ent) (W : List (Key × Nat)) (id : Int) (ks : List Key) (L' : List Ent) (turns' : Int) (lv' : Value) (W' : List (Key × Nat)) : Prop where
  q : QAt w' p room turns' lv' bi bw L' W'
  no : putN L room id ≠ 0 → L' = L
  yes : putN L room id = 0 → ∃ y : Ent, L' = L ++ [y] ∧ y.id = id ∧ y.keys = ks ∧ y.rdy = false ∧ y.tkn = false ∧ y.tch = false
  but : But w w' (OfQ p lv bi bw L W)
  new : ∀ i, OfQ p lv' bi bw L' W' i → OfQ p lv bi bw L W i ∨ w.heap.size ≤ i

theorem new_cells2 (w : World) (t : TypeId) (xs : List Value) : ∀ j u, xs[j]? = some u → (w.alloc (.cells xs.toArray t)).cell? (Addr.add ⟨w.heap.size, 0, none⟩ j) = some u := new_cells w t xs
theorem put_but {w w2 : World} {o : Obj} {lv : Value} (hg : (w.alloc o).grownBy w2 lv.ownBlock) : But w w2 (fun i => lv.ownBlock = some i) :=
  ((But.refl w (fun i => lv.ownBlock = some i)).alloc o).grown hg (fun i _ e => e)
/-- The row has grown by an entry, and it is stored: the ids. -/
theorem put_row {w w2 : World} {p bi bw : Nat} {room turns : Int} {lv v2 : Value} {L : List Ent} {W : List (Key × Nat)} (h : QAt w p room turns lv bi bw L W) (y : Ent) (hy : Blk w y.b 68 y.cs)
    (hk : w.ownsRow 0 48 2 y.kv y.keys.length (keysC y.keys)) (hown : w2.ownsRow 0 63 1 v2 (L.length + 1) (entC L ++ [eP y.b])) (hb : But w w2 (fun i => lv.ownBlock = some i))
    (hn : ∀ e ∈ L, e.b ≠ y.b) (hid : ∀ e ∈ L, e.id ≠ y.id) (hwf : wfI y.id) :
    ∃ w6, (Instr.mapUpdate 57 (.map (some bi)) (.int .i64 y.id) (eP y.b)).run Tryd.prog (w2.setCell ⟨p, 2, none⟩ v2) = .ok () w6 ∧ QNo w6 p room turns v2 bi bw (L ++ [y]) ∧ WM w6 bw W (waitsL L) ∧ But (w2.setCell ⟨p, 2, none⟩ v2) w6 (fun i => i = bi) := by
  have b1 : Blk w2 p 61 #[.int .i64 room, .int .i64 turns, lv, eM bi, eM bw] := h.blk.but hb (own_blk_ne h.row h.blk (by decide))
  have hb5 : But w (w2.setCell ⟨p, 2, none⟩ v2) (fun i => lv.ownBlock = some i ∨ i = p) := (hb.weak (fun _ _ h => .inl h)).setCell (fun _ => .inr rfl) _
  have hbp : But w2 (w2.setCell ⟨p, 2, none⟩ v2) (fun i => i = p) := (But.refl w2 (fun i => i = p)).setCell (fun _ => rfl) _
  have q1 := b1.set_ 2 v2
  have q2 := own_but hown hbp (fun b hb' e => own_blk_ne hown b1 (by decide) (e ▸ hb'))
  have nm : ∀ {K V : Type} {ek : K → Value} {ev : V → Value} {m : Nat} {M : List (K × V)}, MapT ek ev w m M → MapT ek ev (w2.setCell ⟨p, 2, none⟩ v2) m M := fun hm => hm.but hb5 (fun q => q.elim (fun q => own_map_ne h.row hm q) (fun q => blk_map_ne h.blk hm q.symm))
  have ne : ∀ {g : Nat} {cs : Array Value}, Blk w g 68 cs → Blk (w2.setCell ⟨p, 2, none⟩ v2) g 68 cs := fun hm => hm.but hb5 (fun q => q.elim (fun q => own_blk_ne h.row hm (by decide) q) (fun q => (h.blk.ne_ hm (by decide)) q.symm))
  have nk : ∀ {n : Nat} {v : Value} {xs : List Value}, w.ownsRow 0 48 2 v n xs → (w2.setCell ⟨p, 2, none⟩ v2).ownsRow 0 48 2 v n xs := fun hm => own_but hm hb5 (fun b hb' q => q.elim (fun q => own_own_ne hm h.row (by decide) hb' q) (fun q => own_blk_ne hm h.blk (by decide) (q ▸ hb')))
  obtain ⟨w6, hrun, hm6, hg6, hs6⟩ := (nm h.ids).put (P := Tryd.prog) (keyE_int _) h.idS (x := y.id) hwf Tryd.underlying57 y.b
  have hb6 := grown_but hg6
  have nb : ∀ {K V : Type} {ek : K → Value} {ev : V → Value} {m : Nat} {M : List (K × V)}, MapT ek ev (w2.setCell ⟨p, 2, none⟩ v2) m M → m ≠ bi → MapT ek ev w6 m M := fun hm hne => hm.but hb6 hne
  refine ⟨w6, hrun, ⟨q1.but hb6 (blk_map_ne q1 (nm h.ids)), ?_, ?_, ?_, ?_, h.bne, ?_, ?_, ?_⟩, ⟨nb (nm h.wts.top) (Ne.symm h.bne), fun k m hm => nb (nm (h.wts.inn k m hm)) (h.biW k m hm), h.wts.nv, h.wts.out⟩, hb6⟩
  · have : entC (L ++ [y]) = entC L ++ [eP y.b] := by simp [entC]
    rw [this, List.length_append]
    exact own_but q2 hb6 (fun b hb' e => own_map_ne q2 (nm h.ids) (e ▸ hb'))
  · intro e he
    have : Blk w e.b 68 e.cs := by
      rcases List.mem_append.1 he with he | he
      · exact h.ents e he
      · rw [List.mem_singleton.1 he]; exact hy
    exact (ne this).but hb6 (blk_map_ne (ne this) (nm h.ids))
  · intro e he
    have : w.ownsRow 0 48 2 e.kv e.keys.length (keysC e.keys) := by
      rcases List.mem_append.1 he with he | he
      · exact h.keysR e he
      · rw [List.mem_singleton.1 he]; exact hk
    exact own_but (nk this) hb6 (fun b hb' q => own_map_ne (nk this) (nm h.ids) (q ▸ hb'))
  · rw [mput_none (fun q hq => by obtain ⟨e, he, rfl⟩ := List.mem_map.1 hq; exact hid e he)] at hm6
    rw [List.map_append]
    exact hm6
  · rw [List.map_append, List.nodup_append]
    refine ⟨h.idn, by simp, fun a ha b hb' e => ?_⟩
    obtain ⟨x, hx, rfl⟩ := List.mem_map.1 ha
    simp only [List.map_cons, List.map_nil, List.mem_singleton] at hb'
    exact hid x hx (e.trans hb')
  · rw [List.map_append, List.nodup_append]
    refine ⟨h.bn, by simp, fun a ha b hb' e => ?_⟩
    obtain ⟨x, hx, rfl⟩ := List.mem_map.1 ha
    simp only [List.map_cons, List.map_nil, List.mem_singleton] at hb'
    exact hn x hx (e.trans hb')
  · intro e he
    rcases List.mem_append.1 he with he | he
    · exact h.wf e he
    · rw [List.mem_singleton.1 he]; exact hwf

/-- The state of Put's range. -/
structure PutR (W6 wr : World) (p : Nat) (room turns : Int) (v2 : Value) (bi bw : Nat) (L : List Ent) (y : Ent) (W : List (Key × Nat)) (pre : List Key) (Wi : List (Key × Nat)) : Prop where
  no : QNo wr p room turns v2 bi bw (L ++ [y])
  wm : WM wr bw Wi (putF L y.b pre)
  nbi : ∀ x m, (x, m) ∈ Wi → m ≠ bi
  low : ∀ x m, (x, m) ∈ Wi → (x, m) ∈ W ∨ W6.heap.size ≤ m
  but : But W6 wr (fun j => j = bw ∨ ∃ k, (k, j) ∈ W)
section
variable {W6 wr w' w2 : World} {p bi bw m : Nat} {room turns : Int} {v2 : Value} {L : List Ent} {y : Ent} {W Wi : List (Key × Nat)} {pre : List Key} {x : Key}
theorem PutR.below (h : PutR W6 wr p room turns v2 bi bw L y W pre Wi) (hb : Below wr.heap.size wr w') : PutR W6 w' p room turns v2 bi bw L y W pre Wi :=
  ⟨h.no.below hb, h.wm.below hb, h.nbi, h.low, h.but.trans (But.of_below hb (fun _ => False)) (fun _ _ h => h.elim)⟩
theorem PutR.add (h : PutR W6 wr p room turns v2 bi bw L y W pre Wi) (hx : mget Wi x = none) (hF : putF L y.b pre x = [])
    (hput : MapT eK eM w' bw (mput Wi x wr.heap.size)) (hg : (wr.alloc (.map #[] 0)).grownBy w' (some bw)) : PutR W6 w' p room turns v2 bi bw L y W pre (Wi ++ [(x, wr.heap.size)]) := by
  have hb : Below wr.heap.size wr (wr.alloc (.map #[] 0)) := (Below.refl _ _).alloc (Nat.le_refl _) _
  have h2 := h.below hb
  have hlt : ∀ k m, (k, m) ∈ Wi → m < wr.heap.size := fun k m hm => (h.wm.inn k m hm).lt
  have hbw : wr.heap.size ≠ bw := fun e => by have := h.wm.top.lt; omega
  have hbi : wr.heap.size ≠ bi := fun e => by have := h.no.ids.lt; omega
  refine ⟨h2.no.map_but (grown_but hg) (fun i hi => ⟨_, _, _, _, _, hi ▸ h2.wm.top, fun e => h.no.bne (by rw [← hi, e])⟩), h2.wm.add hx hF (MapT.new wr eP eI) (fun k m hm e => by have := hlt k m hm; omega) hbw hput hg, ?_, ?_, ?_⟩
  · intro k m hm
    rcases List.mem_append.1 hm with hm | hm
    · exact h.nbi k m hm
    · simp only [List.mem_singleton, Prod.mk.injEq] at hm
      rw [hm.2]; exact hbi
  · intro k m hm
    rcases List.mem_append.1 hm with hm | hm
    · exact h.low k m hm
    · simp only [List.mem_singleton, Prod.mk.injEq] at hm
      rw [hm.2]; exact .inr h.but.size
  · exact h2.but.grown hg (fun i _ e => by cases e; exact .inl rfl)
theorem PutR.set (h : PutR W6 wr p room turns v2 bi bw L y W pre Wi) (hn : ∀ e ∈ L, e.b ≠ y.b) (hx : (x, m) ∈ Wi) (hput : MapT eP eI w' m (putF L y.b (pre ++ [x]) x)) (hg : wr.grownBy w' (some m)) :
    PutR W6 w' p room turns v2 bi bw L y W (pre ++ [x]) Wi := by
  refine ⟨h.no.map_but (grown_but hg) (fun i hi => ⟨_, _, _, _, _, hi ▸ h.wm.inn x m hx, fun e => h.nbi x m hx (by rw [← hi, e])⟩), ?_, h.nbi, h.low, h.but.grown hg (fun i hi e => by
    cases e
    rcases h.low x m hx with h1 | h1
    · exact .inr ⟨x, h1⟩
    · omega)⟩
  refine (h.wm.set hx hput hg).congr (fun k => ?_)
  by_cases hk : k = x
  · rw [if_pos hk, hk]
  · rw [if_neg hk, putF_other L y.b pre hk]
end

theorem hasR_keep {L : List Ent} {nb m : Nat} {pre : List Key} {x : Key} {Wi : List (Key × Nat)} (h : ∀ z, (∃ m, (z, m) ∈ Wi) ↔ putF L nb pre z ≠ []) (hx : (x, m) ∈ Wi) (z : Key) : (∃ m, (z, m) ∈ Wi) ↔ putF L nb (pre ++ [x]) z ≠ [] := by
  by_cases hz : z = x
  · subst hz
    refine ⟨fun _ => ?_, fun _ => ⟨m, hx⟩⟩
    unfold putF
    rw [if_pos (by simp)]
    simp
  · rw [putF_other L nb pre hz]; exact h z
theorem hasR_add {L : List Ent} {nb mb : Nat} {pre : List Key} {x : Key} {Wi : List (Key × Nat)} (h : ∀ z, (∃ m, (z, m) ∈ Wi) ↔ putF L nb pre z ≠ []) (z : Key) : (∃ m, (z, m) ∈ Wi ++ [(x, mb)]) ↔ putF L nb (pre ++ [x]) z ≠ [] := by
  by_cases hz : z = x
  · subst hz
    refine ⟨fun _ => ?_, fun _ => ⟨mb, by simp⟩⟩
    unfold putF
    rw [if_pos (by simp)]
    simp
  · rw [putF_other L nb pre hz, ← h z]
    simp [hz]

set_option maxRecDepth 100000 in
set_option maxHeartbeats 8000000 in
theorem put_calls {p bi bw : Nat} {room turns : Int} {lv : Value} {L : List Ent} {W : List (Key × Nat)} (id : Int) (hid : wfI id) (ks : List Key) (A : Option Addr) (c : Nat) (w : World) (h : QAt w p room turns lv bi bw L W)
    (hr : ∀ w', But w w' (OfQ p lv bi bw L W) → Reads w' w'.heap.size 2 A ks.length (keysC ks)) (hA : A = none → ks = [] ∧ c = 0) (hl : L.length < 5864062014805) (hk : ks.length ≤ 8796093030000) :
    Calls Tryd.prog 21 #[eP p, .int .i64 id, .slice A ks.length c] w
      fun e w' => ∃ L' turns' lv' W', e = .returned (errV (putN L room id)) ∧ PutQ w w' p room lv bi bw L W id ks L' turns' lv' W' := by
  obtain ⟨i0, hi0, hz0, hz1, hz2⟩ := info_parts infoQPtr
  obtain ⟨LA, lc, rfl⟩ := own_slice h.row
  have c3 : w.cell? ⟨p, 3, none⟩ = some (.map (some bi)) := h.blk.cell 3
  have hlook := h.look_id hid true
  have H := Lib.hid h
  have HR := Lib.hid hr
  have HAN := Lib.hid hA
  clear h hr hA
  by_cases hex : ∃ e ∈ L, e.id = id
  · have hp : putN L room id = 11 := if_pos hex
    obtain ⟨k, hk2, hkid⟩ : ∃ k, ∃ hk : k < L.length, L[k].id = id := ⟨_, place_lt hex⟩
    rw [mget_there H.out.idn hk2 hkid] at hlook
    simp only [Option.map_some, Option.getD_some, if_true, Option.isSome_some] at hlook
    have hev : errV 11 = .iface 73 (.int .i64 11) := rfl
    have hq : PutQ w w p room (.slice LA L.length lc) bi bw L W id ks L turns (.slice LA L.length lc) W := ⟨H.out, fun _ => rfl, (fun h0 => absurd (hp.symm.trans h0) (by decide)), But.refl _ _, fun i hi => .inl hi⟩
    have HQ := Lib.hid hq
    rw [hp, hev]
    clear hex hkid hq hp hev
    unfold eP at hlook ⊢
    go_enter Tryd.func21, Tryd.ntmps21
    go_wp2
    go_ret
    exact ⟨_, _, _, _, rfl, HQ.out⟩
  · have hno : ∀ e ∈ L, e.id ≠ id := fun e he q => hex ⟨e, he, q⟩
    rw [mget_not hno] at hlook
    simp only [Option.map_none, Option.getD_none, if_true, Option.isSome_none] at hlook
    have HNO := Lib.hid hno
    have hpn : putN L room id = if room ≤ L.length then 20 else 0 := if_neg hex
    have HPN := Lib.hid hpn
    clear hex hno hpn
    by_cases hfl : room ≤ (L.length : Int)
    · have hp : putN L room id = 20 := by rw [HPN.out, if_pos hfl]
      have hd : decide (room ≤ (L.length : Int)) = true := decide_eq_true hfl
      have HP := Lib.hid hp
      rw [hp, show errV 20 = .iface 73 (.int .i64 20) from rfl]
      have hfull := full_calls w H.out
      rw [hd] at hfull
      have HF := Lib.hid hfull
      clear hd hp hfl hfull
      unfold eP at ⊢
      go_enter Tryd.func21, Tryd.ntmps21
      go_wp2_with (fail)
      have hfull := HF.out
      unfold eP at hfull
      refine hfull.mono ?_
      rintro e w1 ⟨rfl, hb1⟩
      have HQ := Lib.hid (PutQ.mk (w' := w1) (ks := ks) (H.out.below hb1) (fun _ => rfl) (fun h0 => absurd (HP.out.symm.trans h0) (by decide)) (But.of_below hb1 (OfQ p (.slice LA L.length lc) bi bw L W)) (fun i hi => .inl hi))
      clear hb1 hfull hlook c3
      go_wp2
      go_ret
      exact ⟨_, _, _, _, rfl, HQ.out⟩
    have hp : putN L room id = 0 := by rw [HPN.out, if_neg hfl]
    have hd : decide (room ≤ (L.length : Int)) = false := decide_eq_false hfl
    have HP0 := Lib.hid hp
    rw [hp, errV_zero]
    have hfull := full_calls w H.out
    rw [hd] at hfull
    have HF := Lib.hid hfull
    clear hd hp hfl hfull
    unfold eP at ⊢
    go_enter Tryd.func21, Tryd.ntmps21
    go_wp2_with (fail)
    have hfull := HF.out
    unfold eP at hfull
    refine hfull.mono ?_
    rintro e w1 ⟨rfl, hb1⟩
    have HQ1 := Lib.hid (H.out.below hb1)
    have HB1 := Lib.hid (But.of_below hb1 (OfQ p (.slice LA L.length lc) bi bw L W))
    clear hb1 hfull hlook c3
    have y1 : w1.cell? ⟨p, 1, none⟩ = some (.int .i64 turns) := HQ1.out.blk.cell 1
    have z1 : w1.frozen? ⟨p, 1, none⟩ = false := HQ1.out.blk.frozen 1
    obtain ⟨t', ht'⟩ : ∃ t', IntKind.i64.wrap (turns + 1) = t' := ⟨_, rfl⟩
    obtain ⟨W2, hW2⟩ : ∃ X, w1.setCell ⟨p, 1, none⟩ (.int .i64 t') = X := ⟨_, rfl⟩
    obtain ⟨WD, hWD⟩ : ∃ X, W2.drew = X := ⟨_, rfl⟩
    have hQD : QAt WD p room t' (.slice LA L.length lc) bi bw L W := by
      rw [← hWD, ← hW2]
      exact HQ1.out.turns_.below (Below.refl _ _).drew
    have hBD : But w WD (OfQ p (.slice LA L.length lc) bi bw L W) := by
      rw [← hWD, ← hW2]
      exact (HB1.out.setCell (fun _ => .inl rfl) _).drew
    have s1 : W2.cell? ⟨p, 1, none⟩ = some (.int .i64 t') := by rw [← hW2]; exact HQ1.out.turns_.blk.cell 1
    have HQD := Lib.hid hQD
    have HBD := Lib.hid hBD
    have HWD := Lib.hid hWD
    clear hQD hBD hWD
    go_wp2_with (fail)
    go_region_held3 (fun w' => w'.cell? ⟨p, 1, none⟩ = some (.int .i64 t')) (first | go_keep | fail)
      (first | (go_at_call 38; rw [HWD.out]; refine (cloneK_calls ks A c WD (HR.out WD HBD.out) HAN.out hk).mono ?_; rintro e w3 ⟨kv, rfl, hown3, hb3⟩; obtain ⟨KA, kc, rfl⟩ := own_slice hown3; have HQ3 := Lib.hid (HQD.out.below hb3); have HB3 := Lib.hid (HBD.out.trans (But.of_below hb3 (fun _ => False)) (fun _ _ h => h.elim)); have HK3 := Lib.hid hown3; have s3 : w3.cell? ⟨p, 1, none⟩ = some (.int .i64 t') := HQ3.out.blk.cell 1; clear hown3 hb3))
    obtain ⟨y, hy⟩ : ∃ y : Ent, y = ⟨w3.heap.size, KA, kc, id, t', ks, false, false, false⟩ := ⟨_, rfl⟩
    obtain ⟨W4, hW4⟩ : ∃ X, w3.alloc (.cells #[.int .i64 id, .int .i64 t', .slice KA ks.length kc, .bool false, .bool false, .bool false] 68) = X := ⟨_, rfl⟩
    rw [hW4]
    obtain ⟨nb, hnb⟩ : ∃ n, w3.heap.size = n := ⟨_, rfl⟩
    rw [hnb]
    have hb4 : Below w3.heap.size w3 W4 := hW4 ▸ (Below.refl _ _).alloc (Nat.le_refl _) _
    have hq4 := HQ3.out.below hb4
    have hyb : y.b = nb := by rw [hy, ← hnb]
    have hyc : y.cs = #[.int .i64 id, .int .i64 t', .slice KA ks.length kc, .bool false, .bool false, .bool false] := by rw [hy]; rfl
    have hblk : Blk W4 y.b 68 y.cs := by rw [hyc, hyb, ← hW4, ← hnb]; exact Blk.new _ _ _
    have hkr : W4.ownsRow 0 48 2 y.kv y.keys.length (keysC y.keys) := by
      have : W4.ownsRow WD.heap.size 48 2 (.slice KA ks.length kc) ks.length (keysC ks) := own_but HK3.out (But.of_below hb4 (fun _ => False)) (fun _ _ h => h)
      rw [hy]
      exact own_base0 this
    have hnew : ∀ e ∈ L, e.b ≠ y.b := fun e he q => by have := (HQ3.out.ents e he).lt; rw [q, hyb, ← hnb] at this; omega
    have c2 : W4.cell? ⟨p, 2, none⟩ = some (.slice LA L.length lc) := hq4.blk.cell 2
    have f2 : W4.frozen? ⟨p, 2, none⟩ = false := hq4.blk.frozen 2
    have HQ4 := Lib.hid hq4
    have HY := Lib.hid hy
    have HYB := Lib.hid hyb
    have HYC := Lib.hid hyc
    have HBL := Lib.hid hblk
    have HKR := Lib.hid hkr
    have HNEW := Lib.hid hnew
    have HB4 := Lib.hid (HB3.out.trans (But.of_below hb4 (fun _ => False)) (fun _ _ h => h.elim))
    have HNB : Hid (w.heap.size ≤ nb ∧ nb < W4.heap.size) := by
      show _ ∧ _
      refine ⟨by have := HB3.out.size; omega, ?_⟩
      have := hblk.lt
      rwa [hyb] at this
    clear hq4 hy hyb hyc hblk hkr hnew hb4 hnb hW4 s1 s3 hW2 y1 z1
    rename_i hHeld
    clear hHeld
    go_wp2_with (first | (at_builtin; refine wpList_append_wide_at _ rfl (.tmp 46) (.tmp 48) 59 rfl 0 63 i0 _ 1 8 Tryd.underlying59 hi0 hz0 hz1 hz2 rfl (by decide) (.slice LA L.length lc) L.length (entC L) rfl (HQ4.out.row.alloc _) ⟨W4.heap.size, 0, none⟩ 1 1 [.pointer (some ⟨nb, 0, none⟩)] rfl rfl ?_ ?_ ?_ ?_ ?_ ?_; exact new_cells W4 63 [.pointer (some ⟨nb, 0, none⟩)]; (simp [Value.oneCell']); (unfold maxLen; omega); omega; exact Nat.zero_le _; intro v2 w5 hown5 hg5 _ hat5; obtain ⟨NA, nc, rfl⟩ := own_slice hown5; have hb5 := put_but hg5; obtain ⟨W6, hrun6, hno6, hwm6, hb6⟩ := put_row HQ4.out y HBL.out HKR.out (HYB.out.symm ▸ hown5) hb5 HNEW.out (by rw [HY.out]; exact HNO.out) (by rw [HY.out]; exact hid); have c5 : w5.cell? ⟨p, 2, none⟩ = some (.slice LA L.length lc) := (HQ4.out.blk.but hb5 (own_blk_ne HQ4.out.row HQ4.out.blk (by decide))).cell 2; have f5 : w5.frozen? ⟨p, 2, none⟩ = false := (HQ4.out.blk.but hb5 (own_blk_ne HQ4.out.row HQ4.out.blk (by decide))).frozen 2; have d5 : w5.cell? ⟨p, 3, none⟩ = some (.map (some bi)) := (HQ4.out.blk.but hb5 (own_blk_ne HQ4.out.row HQ4.out.blk (by decide))).cell 3; have c6 : W6.cell? ⟨nb, 2, none⟩ = some (.slice KA ks.length kc) := by {have := (hno6.ents y (by simp)).cell 2; rw [HYB.out] at this; rw [HYC.out] at this; exact this}; rw [show y.id = id by rw [HY.out], HYB.out] at hrun6; unfold eP at hrun6; have HO5 := Lib.hid hown5; have HA5 := Lib.hid hat5; have HB5 := Lib.hid hb5; have HB6 := Lib.hid hb6; have HNO6 := Lib.hid hno6; have HWM6 := Lib.hid hwm6; clear hown5 hg5 hat5 hb5 hb6 hno6 hwm6))
    have hball : But w W6 (OfQ p (.slice LA L.length lc) bi bw L W) := by
      refine ((HB4.out.trans HB5.out (fun i _ hi => .inr (.inl hi))).setCell (fun _ => .inl rfl) _).trans HB6.out (fun i _ hi => .inr (.inr (.inl hi)))
    have HALL := Lib.hid hball
    have hst0 : PutR W6 W6 p room t' (.slice NA (L.length + 1) nc) bi bw L y W (ks.take 0) W := ⟨HNO6.out, HWM6.out.congr (fun k => by rw [List.take_zero, putF_nil]), H.out.biW, fun _ _ h => .inl h, But.refl _ _⟩
    have HST0 := Lib.hid hst0
    clear hball hst0 c5 f5 d5 hrun6 c2 f2
    go_loopw [63] (fun i wr => ∃ k Wi, k ≤ ks.length ∧ i = .int .i64 (k : Nat) ∧ PutR W6 wr p room t' (.slice NA (L.length + 1) nc) bi bw L y W (ks.take k) Wi ∧ ∀ x, (∃ m, (x, m) ∈ Wi) ↔ putF L y.b (ks.take k) x ≠ []) (fun i _ => ks.length - (intOf i).toNat)
    case atStart => exact ⟨0, W, Nat.zero_le _, rfl, HST0.out, fun x => by rw [List.take_zero, putF_nil]; exact H.out.wts.has x⟩
    case round =>
      obtain ⟨k, Wi, hk2, rfl, hR, hH⟩ := hrel
      by_cases hlt : k < ks.length
      · have hkl : (k : Int) < ks.length := by omega
        have hkr := hR.no.keysR y (by simp)
        rw [show y.kv = .slice KA ks.length kc by rw [HY.out]; rfl, show y.keys = ks by rw [HY.out]] at hkr
        obtain ⟨ad, rfl, hadb, k0, k1⟩ := keys_at (Reads.of_own hkr) hlt
        have hT : ks.take (k + 1) = ks.take k ++ [ks[k]] := List.take_succ_eq_append_getElem hlt
        have hcl0 : (ks.take k).count ks[k] ≤ ks.length := Nat.le_trans List.count_le_length (by simp; omega)
        generalize ks[k] = x at k0 k1 hT hcl0
        generalize hpre : ks.take k = pre at hR hH hT hcl0
        have HCL : Hid (pre.count x ≤ 8796093030000) := Nat.le_trans hcl0 hk
        have HT := Lib.hid hT
        have HPRE := Lib.hid hpre
        have HH := Lib.hid hH
        obtain ⟨gk, hgk⟩ : ∃ q, wr.heap.size = q := ⟨_, rfl⟩
        obtain ⟨W1, hW1⟩ : ∃ X, wr.alloc (.cells #[.int .i64 x.acc, .int .i64 x.ast] 48) = X := ⟨_, rfl⟩
        have hb1 : Below wr.heap.size wr W1 := hW1 ▸ (Below.refl _ _).alloc (Nat.le_refl _) _
        have hx1 : Blk W1 gk 48 #[.int .i64 x.acc, .int .i64 x.ast] := by rw [← hW1, ← hgk]; exact Blk.new _ _ _
        obtain ⟨WE, hWE⟩ : ∃ X, W1.drew = X := ⟨_, rfl⟩
        have hbE : Below wr.heap.size wr WE := hWE ▸ hb1.drew
        have hxE : Blk WE gk 48 #[.int .i64 x.acc, .int .i64 x.ast] := hWE ▸ hx1.drew
        have hRE := hR.below hbE
        have y4 : WE.cell? ⟨p, 4, none⟩ = some (.map (some bw)) := hRE.no.blk.cell 4
        have y5 : WE.cell? ⟨gk, 0, none⟩ = some (.int .i64 x.acc) := hxE.cell 0
        have y6 : WE.cell? ⟨gk, 1, none⟩ = some (.int .i64 x.ast) := hxE.cell 1
        have hlook := hRE.wm.top.look (keyE_key WE) (fun _ _ => trivial) (x := x) trivial Tryd.underlying58 (z := .map none) (by kernel_rfl) false
        unfold eK at hlook
        have heqN := fun r => run_eql_map_nil (P := Tryd.prog) WE 74 _ _ r Tryd.underlying74
        have HRE := Lib.hid hRE
        have HXE := Lib.hid hxE
        clear hR hH hb1 hx1 hbE hxE hRE hT hpre hcl0 hkr
        cases hm : mget Wi x with
        | none =>
          rw [hm] at hlook
          simp only [Option.map_none, Option.getD_none, Bool.false_eq_true, if_false] at hlook
          have hF0 : putF L y.b pre x = [] := Classical.byContradiction (fun q => by obtain ⟨m, hmm⟩ := (HH.out x).2 q; exact mget_no hm m hmm)
          have HF0 := Lib.hid hF0
          have HMN := Lib.hid hm
          clear hF0 hm
          go_wp2_with (fail)
          refine region_tail 6 (by kernel_rfl) (by kernel_rfl) ?_
          rw [hWE]
          simp only [List.take_succ_cons, List.take_zero, List.drop_succ_cons, List.drop_zero]
          repeat still_step
          refine wpStill_nil ?_
          clear hlook y4 y5 y6 k0 k1
          go_wp2_with (fail)
          -- region 14
          obtain ⟨WF, hWF⟩ : ∃ X, WE.drew = X := ⟨_, rfl⟩
          have hbF : Below WE.heap.size WE WF := hWF ▸ (Below.refl _ _).drew
          have hRF := HRE.out.below hbF
          have hxF := HXE.out.below hbF HXE.out.lt
          have z4 : WF.cell? ⟨p, 4, none⟩ = some (.map (some bw)) := hRF.no.blk.cell 4
          have z5 : WF.cell? ⟨gk, 0, none⟩ = some (.int .i64 x.acc) := hxF.cell 0
          have z6 : WF.cell? ⟨gk, 1, none⟩ = some (.int .i64 x.ast) := hxF.cell 1
          have hmm := @run_makeMap Tryd.prog
          obtain ⟨W3, hrun3, hm3, hg3, hs3⟩ := (hRF.wm.top.below ((Below.refl _ _).alloc (Nat.le_refl _) (.map #[] 0))).put (P := Tryd.prog) (keyE_key _) (fun _ _ => trivial) (x := x) trivial Tryd.underlying58 WF.heap.size
          unfold eK eM at hrun3
          have HR3 := Lib.hid (hRF.add HMN.out HF0.out hm3 hg3)
          have hxA : Blk (WF.alloc (.map #[] 0)) gk 48 #[.int .i64 x.acc, .int .i64 x.ast] := hxF.below ((Below.refl _ _).alloc (Nat.le_refl _) _) hxF.lt
          have HX3 := Lib.hid (hxA.but (grown_but hg3) (blk_map_ne hxA (hRF.wm.top.below ((Below.refl _ _).alloc (Nat.le_refl _) (.map #[] 0)))))
          have v4 : W3.cell? ⟨p, 4, none⟩ = some (.map (some bw)) := HR3.out.no.blk.cell 4
          have v5 : W3.cell? ⟨gk, 0, none⟩ = some (.int .i64 x.acc) := HX3.out.cell 0
          have v6 : W3.cell? ⟨gk, 1, none⟩ = some (.int .i64 x.ast) := HX3.out.cell 1
          clear hbF hRF hxF hm3 hg3 hs3 hxA
          go_region_held3 (fun w' => w'.cell? ⟨p, 4, none⟩ = some (.map (some bw)) ∧ w'.cell? ⟨gk, 0, none⟩ = some (.int .i64 x.acc) ∧ w'.cell? ⟨gk, 1, none⟩ = some (.int .i64 x.ast)) (first | exact ⟨v4, v5, v6⟩ | go_keep | fail) (fail)
          clear v4 v5 v6
          go_wp2_with (fail)

          -- region 15
          obtain ⟨VD, hVD⟩ : ∃ X, W3.drew = X := ⟨_, rfl⟩
          have hbV : Below W3.heap.size W3 VD := hVD ▸ (Below.refl _ _).drew
          have hRV := (HR3.out).below hbV
          have hgV : Blk VD gk 48 #[.int .i64 x.acc, .int .i64 x.ast] := HX3.out.below hbV HX3.out.lt
          have y7 : VD.cell? ⟨p, 4, none⟩ = some (.map (some bw)) := hRV.no.blk.cell 4
          have y8 : VD.cell? ⟨gk, 0, none⟩ = some (.int .i64 x.acc) := hgV.cell 0
          have y9 : VD.cell? ⟨gk, 1, none⟩ = some (.int .i64 x.ast) := hgV.cell 1
          have hlook2 := hRV.wm.top.look (keyE_key VD) (fun _ _ => trivial) (x := x) trivial Tryd.underlying58 (z := .map none) (by kernel_rfl) false
          rw [(mget_some (a := Wi) (c := []) (v := WF.heap.size) (fun q hq e => mget_no HMN.out q.2 (by rw [← e]; exact hq)))] at hlook2
          simp only [Option.map_some, Option.getD_some, Bool.false_eq_true, if_false] at hlook2
          unfold eK eM at hlook2
          have hent : IsEnt VD y.b := ⟨_, hRV.no.ents y (by simp)⟩
          have hkS := putF_keys (w := VD) (L := L) (nb := y.b) (fun e he => ⟨_, hRV.no.ents e (by simp [he])⟩) hent pre x
          have hst := putF_step HNEW.out pre x
          have hin := hRV.wm.inn x WF.heap.size (List.mem_append_right _ (List.mem_singleton.2 rfl))
          have hlook3 := hin.look (keyE_ent VD) hkS hent Tryd.underlying74 (z := .int .i64 0) (by kernel_rfl) false
          rw [show ((mget (putF L y.b pre x) y.b).map eI).getD (.int .i64 0) = .int .i64 ((mget (putF L y.b pre x) y.b).getD 0) by cases mget (putF L y.b pre x) y.b <;> rfl, hst.1] at hlook3
          simp only [Bool.false_eq_true, if_false] at hlook3
          obtain ⟨V2, hrunV, hmV, hgrV, _⟩ := hin.put (P := Tryd.prog) (keyE_ent VD) hkS hent Tryd.underlying74 ((pre.count x : Int) + 1)
          rw [hst.2] at hmV
          have hcl := HCL.out
          have hwr : IntKind.i64.wrap ((pre.count x : Int) + 1) = (pre.count x : Int) + 1 := IntWalk.i64_in _ (by omega)
          unfold eP eI at hrunV
          unfold eP at hlook3
          rw [HYB.out] at hlook3 hrunV
          have HS := Lib.hid (hRV.set HNEW.out ((List.mem_append_right _ (List.mem_singleton.2 rfl))) hmV hgrV)
          clear z4 z5 z6 hbV hRV hgV hent hkS hst hin hmV hgrV hcl
          refine region_tail 9 (by kernel_rfl) (by kernel_rfl) ?_
          rw [hVD]
          simp only [List.take_succ_cons, List.take_zero, List.drop_succ_cons, List.drop_zero]
          repeat still_step
          refine wpStill_nil ?_
          clear hlook2 hlook3 y7 y8 y9
          go_wp2_with (fail)
          go_roundw
          case rel =>
            refine ⟨k + 1, Wi ++ [(x, WF.heap.size)], by omega, by go_num, by rw [HT.out]; exact HS.out, fun z => ?_⟩
            rw [HT.out]
            exact hasR_add (L := L) (nb := y.b) (mb := WF.heap.size) (pre := pre) HH.out z
          case measure => simp [intOf]; omega
        | some mb =>
          rw [hm] at hlook
          simp only [Option.map_some, Option.getD_some, Bool.false_eq_true, if_false] at hlook
          unfold eM at hlook
          have HMEM := Lib.hid (mget_mem hm)
          have HMS := Lib.hid hm
          clear hm
          go_wp2_with (fail)
          refine region_tail 6 (by kernel_rfl) (by kernel_rfl) ?_
          rw [hWE]
          simp only [List.take_succ_cons, List.take_zero, List.drop_succ_cons, List.drop_zero]
          repeat still_step
          refine wpStill_nil ?_
          clear hlook y4 y5 y6 k0 k1
          go_wp2_with (fail)

          -- region 15
          obtain ⟨VD, hVD⟩ : ∃ X, WE.drew = X := ⟨_, rfl⟩
          have hbV : Below WE.heap.size WE VD := hVD ▸ (Below.refl _ _).drew
          have hRV := (HRE.out).below hbV
          have hgV : Blk VD gk 48 #[.int .i64 x.acc, .int .i64 x.ast] := HXE.out.below hbV HXE.out.lt
          have y7 : VD.cell? ⟨p, 4, none⟩ = some (.map (some bw)) := hRV.no.blk.cell 4
          have y8 : VD.cell? ⟨gk, 0, none⟩ = some (.int .i64 x.acc) := hgV.cell 0
          have y9 : VD.cell? ⟨gk, 1, none⟩ = some (.int .i64 x.ast) := hgV.cell 1
          have hlook2 := hRV.wm.top.look (keyE_key VD) (fun _ _ => trivial) (x := x) trivial Tryd.underlying58 (z := .map none) (by kernel_rfl) false
          rw [HMS.out] at hlook2
          simp only [Option.map_some, Option.getD_some, Bool.false_eq_true, if_false] at hlook2
          unfold eK eM at hlook2
          have hent : IsEnt VD y.b := ⟨_, hRV.no.ents y (by simp)⟩
          have hkS := putF_keys (w := VD) (L := L) (nb := y.b) (fun e he => ⟨_, hRV.no.ents e (by simp [he])⟩) hent pre x
          have hst := putF_step HNEW.out pre x
          have hin := hRV.wm.inn x mb HMEM.out
          have hlook3 := hin.look (keyE_ent VD) hkS hent Tryd.underlying74 (z := .int .i64 0) (by kernel_rfl) false
          rw [show ((mget (putF L y.b pre x) y.b).map eI).getD (.int .i64 0) = .int .i64 ((mget (putF L y.b pre x) y.b).getD 0) by cases mget (putF L y.b pre x) y.b <;> rfl, hst.1] at hlook3
          simp only [Bool.false_eq_true, if_false] at hlook3
          obtain ⟨V2, hrunV, hmV, hgrV, _⟩ := hin.put (P := Tryd.prog) (keyE_ent VD) hkS hent Tryd.underlying74 ((pre.count x : Int) + 1)
          rw [hst.2] at hmV
          have hcl := HCL.out
          have hwr : IntKind.i64.wrap ((pre.count x : Int) + 1) = (pre.count x : Int) + 1 := IntWalk.i64_in _ (by omega)
          unfold eP eI at hrunV
          unfold eP at hlook3
          rw [HYB.out] at hlook3 hrunV
          have HS := Lib.hid (hRV.set HNEW.out (HMEM.out) hmV hgrV)
          clear hbV hRV hgV hent hkS hst hin hmV hgrV hcl
          refine region_tail 9 (by kernel_rfl) (by kernel_rfl) ?_
          rw [hVD]
          simp only [List.take_succ_cons, List.take_zero, List.drop_succ_cons, List.drop_zero]
          repeat still_step
          refine wpStill_nil ?_
          clear hlook2 hlook3 y7 y8 y9
          go_wp2_with (fail)
          go_roundw
          case rel =>
            refine ⟨k + 1, Wi, by omega, by go_num, by rw [HT.out]; exact HS.out, fun z => ?_⟩
            rw [HT.out]
            exact hasR_keep (L := L) (nb := y.b) (pre := pre) HH.out HMEM.out z
          case measure => simp [intOf]; omega
      · obtain rfl : k = ks.length := by omega
        rw [List.take_length] at hR hH
        have hbq : But w wr (OfQ p (.slice LA L.length lc) bi bw L W) := HALL.out.trans hR.but (fun i _ hi => hi.elim (fun h => .inr (.inr (.inr (.inl h)))) (fun h => .inr (.inr (.inr (.inr (.inr h))))))
        have hF : ∀ z, putF L y.b ks z = waitsL (L ++ [y]) z := fun z => by rw [← putF_all, show y.keys = ks by rw [HY.out]]
        have hq : PutQ w wr p room (.slice LA L.length lc) bi bw L W id ks (L ++ [y]) t' (.slice NA (L.length + 1) nc) Wi := by
          refine ⟨hR.no.qat ((hR.wm.congr hF).wat (fun z => by rw [← hF]; exact hH z)) hR.nbi, fun h0 => absurd HP0.out h0, fun _ => ⟨y, rfl, by rw [HY.out], by rw [HY.out], by rw [HY.out], by rw [HY.out], by rw [HY.out]⟩, hbq, ?_⟩
          have hw6 : w.heap.size ≤ W6.heap.size := HALL.out.size
          rintro i (hi | hi | hi | hi | ⟨e, he, hi⟩ | ⟨z, hm⟩)
          · exact .inl (.inl hi)
          · rcases HA5.out with h5 | h5
            · exact .inl (.inr (.inl (h5 ▸ hi)))
            · rw [h5] at hi
              injection hi with hi
              have := HB4.out.size
              refine .inr ?_
              simp at hi
              omega
          · exact .inl (.inr (.inr (.inl hi)))
          · exact .inl (.inr (.inr (.inr (.inl hi))))
          · rcases List.mem_append.1 he with he | he
            · exact .inl (.inr (.inr (.inr (.inr (.inl ⟨e, he, hi⟩)))))
            · rw [List.mem_singleton.1 he] at hi
              rcases hi with hi | hi
              · rw [hi, HYB.out]; exact .inr HNB.out.1
              · rw [show y.kv = .slice KA ks.length kc by rw [HY.out]; rfl] at hi
                have := own_base HK3.out hi
                have := HBD.out.size
                exact .inr (by omega)
          · rcases hR.low z i hm with h1 | h1
            · exact .inl (.inr (.inr (.inr (.inr (.inr ⟨z, h1⟩)))))
            · exact .inr (by omega)
        have HQQ := Lib.hid hq
        clear hR hH hbq hF hq
        go_wp2
        go_ret
        exact ⟨_, _, _, _, rfl, HQQ.out⟩
end Go.Proofs.YtmcknfpohnobdaaDoor
