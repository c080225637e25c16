/- Queue: Remove by a contract. -/
import Derived.Test.YtmcknfpohnobdaaDoorQ13
import Derived.WalkSpells
import Derived.Deep.DeepCutAuto
namespace Go.Proofs.YtmcknfpohnobdaaDoor
set_option linter.unusedSimpArgs false
set_option linter.unusedVariables false
open Go.RowKit Go.MapKept Go.ChangeMaps Go.Maps

/-- A queue but for who waits, an id already out. -/
structure QRm (w : World) (p : Nat) (room turns : Int) (lv : Value) (bi bw : Nat) (L : List Ent) (k : Nat) : Prop where
  blk : Blk w p 61 #[.int .i64 room, .int .i64 turns, lv, eM bi, eM bw]
  row : w.ownsRow 0 63 1 lv L.length (entC L)
  ents : ∀ e ∈ L, Blk w e.b 68 e.cs
  keysR : ∀ e ∈ L, w.ownsRow 0 48 2 e.kv e.keys.length (keysC e.keys)
  ids : MapT eI eP w bi ((L.eraseIdx k).map (fun e => (e.id, e.b)))
section
variable {w w' : World} {p bi bw k : Nat} {room turns : Int} {lv : Value} {L : List Ent} {W : List (Key × Nat)} {S : Nat → Prop}
theorem QRm.but (h : QRm w p room turns lv bi bw L k) (hb : But w w' S) (h1 : ¬ S p) (h2 : ∀ b, lv.ownBlock = some b → ¬ S b) (h3 : ¬ S bi) (h4 : ∀ e ∈ L, ¬ S e.b ∧ ∀ b, e.kv.ownBlock = some b → ¬ S b) : QRm w' p room turns lv bi bw L k :=
  ⟨h.blk.but hb h1, own_but h.row hb h2, fun e he => (h.ents e he).but hb (h4 e he).1, fun e he => own_but (h.keysR e he) hb (h4 e he).2, h.ids.but hb h3⟩
theorem QRm.below (h : QRm w p room turns lv bi bw L k) (hb : Below w.heap.size w w') : QRm w' p room turns lv bi bw L k := h.but (But.of_below hb (fun _ => False)) (fun h => h) (fun _ _ h => h) (fun h => h) (fun _ _ => ⟨fun h => h, fun _ _ h => h⟩)
theorem QRm.map_but {F : Nat → Prop} (h : QRm w p room turns lv bi bw L k) (hb : But w w' F) (hF : ∀ i, F i → ∃ (K V : Type) (ek : K → Value) (ev : V → Value) (M : List (K × V)), MapT ek ev w i M ∧ i ≠ bi) : QRm w' p room turns lv bi bw L k := by
  refine h.but hb (fun hs => ?_) (fun b hb' hs => ?_) (fun hs => ?_) (fun e he => ⟨fun hs => ?_, fun b hb' hs => ?_⟩)
  · obtain ⟨K, V, ek, ev, M, hm, _⟩ := hF _ hs; exact blk_map_ne h.blk hm rfl
  · obtain ⟨K, V, ek, ev, M, hm, _⟩ := hF _ hs; exact own_map_ne h.row hm hb'
  · obtain ⟨K, V, ek, ev, M, hm, hn⟩ := hF _ hs; exact hn rfl
  · obtain ⟨K, V, ek, ev, M, hm, _⟩ := hF _ hs; exact blk_map_ne (h.ents e he) hm rfl
  · obtain ⟨K, V, ek, ev, M, hm, _⟩ := hF _ hs; exact own_map_ne (h.keysR e he) hm hb'
theorem ids_del (hn : (L.map (·.id)).Nodup) (hk : k < L.length) : mdel (L.map (fun e => (e.id, e.b))) L[k].id = (L.eraseIdx k).map (fun e => (e.id, e.b)) := by
  have hsplit : L = L.take k ++ L[k] :: L.drop (k + 1) := by rw [List.getElem_cons_drop, List.take_append_drop]
  have hm : L.map (fun e => (e.id, e.b)) = (L.take k).map (fun e => (e.id, e.b)) ++ (L[k].id, L[k].b) :: (L.drop (k + 1)).map (fun e => (e.id, e.b)) := by
    have := congrArg (List.map (fun e : Ent => (e.id, e.b))) hsplit
    rw [List.map_append, List.map_cons] at this
    exact this
  rw [hm, mdel_some, List.eraseIdx_eq_take_drop_succ, List.map_append]
  · intro q hq
    obtain ⟨e, he, rfl⟩ := List.mem_map.1 hq
    obtain ⟨i, hi, rfl⟩ := List.getElem_of_mem he
    rw [List.length_take] at hi
    intro h
    simp only [List.getElem_take] at h
    have := nd_get hn (by omega) hk h
    omega
  · intro q hq
    obtain ⟨e, he, rfl⟩ := List.mem_map.1 hq
    obtain ⟨i, hi, rfl⟩ := List.getElem_of_mem he
    rw [List.length_drop] at hi
    intro h
    simp only [List.getElem_drop] at h
    have := nd_get hn (by omega) hk h
    omega
/-- The id goes out of the ids. -/
theorem rm_ids (h : QAt w p room turns lv bi bw L W) (hk : k < L.length) :
    ∃ w2, (Builtin.delete_ #[57, 3] 0 #[.map (some bi), .int .i64 L[k].id]).run Tryd.prog w = .ok (.tuple #[]) w2 ∧ QRm w2 p room turns lv bi bw L k ∧ WM w2 bw W (waitsL L) ∧ But w w2 (fun i => i = bi) := by
  obtain ⟨w2, hrun, hm, hg, hs⟩ := h.ids.del (P := Tryd.prog) (keyE_int _) h.idS (h.wf _ (List.getElem_mem hk)) Tryd.underlying57 0
  have hb := grown_but hg
  rw [ids_del h.idn hk] at hm
  exact ⟨w2, hrun, ⟨h.blk.but hb (blk_map_ne h.blk h.ids), own_but h.row hb (fun b hb' e => own_map_ne h.row h.ids (e ▸ hb')), fun e he => (h.ents e he).but hb (blk_map_ne (h.ents e he) h.ids),
    fun e he => own_but (h.keysR e he) hb (fun b hb' q => own_map_ne (h.keysR e he) h.ids (q ▸ hb')), hm⟩, h.wts.wm.but hb (Ne.symm h.bne) (fun k m hm' => h.biW k m hm'), hb⟩
end
/-- The row is cut, and stored. -/
theorem rm_end {w w5 : World} {p bi bw k : Nat} {room turns : Int} {lv v2 : Value} {L : List Ent} {Wi : List (Key × Nat)} {F : Key → List (Nat × Int)} (h : QRm w p room turns lv bi bw L k) (hm : WM w bw Wi F) (hF : ∀ z, F z = waitsL (L.eraseIdx k) z) (hh : ∀ z, (∃ m, (z, m) ∈ Wi) ↔ F z ≠ [])
    (hbi : ∀ z m, (z, m) ∈ Wi → m ≠ bi) (hne : bi ≠ bw) (hk : k < L.length) (hn1 : (L.map (·.id)).Nodup) (hn2 : (L.map (·.b)).Nodup) (hwf : ∀ e ∈ L, wfI e.id)
    (hown : w5.ownsRow 0 63 1 v2 (L.length - 1) (((L.map (·.b)).eraseIdx k).map eP)) (hb : But w w5 (fun i => lv.ownBlock = some i)) :
    QAt (w5.setCell ⟨p, 2, none⟩ v2) p room turns v2 bi bw (L.eraseIdx k) Wi := by
  have b1 : Blk w5 p 61 #[.int .i64 room, .int .i64 turns, lv, eM bi, eM bw] := h.blk.but hb (own_blk_ne h.row h.blk (by decide))
  have hb5 : But w (w5.setCell ⟨p, 2, none⟩ v2) (fun i => lv.ownBlock = some i ∨ i = p) := (hb.weak (fun _ _ h => .inl h)).setCell (fun _ => .inr rfl) _
  have hbp : But w5 (w5.setCell ⟨p, 2, none⟩ v2) (fun i => i = p) := (But.refl w5 (fun i => i = p)).setCell (fun _ => rfl) _
  have nm : ∀ {K V : Type} {ek : K → Value} {ev : V → Value} {m : Nat} {M : List (K × V)}, MapT ek ev w m M → MapT ek ev (w5.setCell ⟨p, 2, none⟩ v2) m M := fun hm => hm.but hb5 (fun q => q.elim (fun q => own_map_ne h.row hm q) (fun q => blk_map_ne h.blk hm q.symm))
  have hsub : ∀ e ∈ L.eraseIdx k, e ∈ L := fun e he => List.mem_of_mem_eraseIdx he
  have hlen : (L.eraseIdx k).length = L.length - 1 := by rw [List.length_eraseIdx, if_pos hk]
  have hrow : ((L.map (·.b)).eraseIdx k).map eP = entC (L.eraseIdx k) := by
    unfold entC
    rw [List.eraseIdx_eq_take_drop_succ, List.eraseIdx_eq_take_drop_succ, List.map_append, List.map_append, ← List.map_take, ← List.map_drop, List.map_map, List.map_map]
    rfl
  rw [hrow, ← hlen] at hown
  refine ⟨b1.set_ 2 v2, own_but hown hbp (fun b hb' e => own_blk_ne hown b1 (by decide) (e ▸ hb')), fun e he => ?_, fun e he => ?_, nm h.ids, ⟨nm hm.top, fun z m hz => hF z ▸ nm (hm.inn z m hz), fun z => by rw [← hF]; exact hh z, hm.top.nk, hm.nv, hm.out⟩, hne, hbi, ?_, ?_, fun e he => hwf e (hsub e he)⟩
  · have := h.ents e (hsub e he)
    exact this.but hb5 (fun q => q.elim (fun q => own_blk_ne h.row this (by decide) q) (fun q => (h.blk.ne_ this (by decide)) q.symm))
  · have := h.keysR e (hsub e he)
    exact own_but this hb5 (fun b hb' q => q.elim (fun q => own_own_ne this h.row (by decide) hb' q) (fun q => own_blk_ne this h.blk (by decide) (q ▸ hb')))
  · exact ((List.eraseIdx_sublist L k).map _).nodup hn1
  · exact ((List.eraseIdx_sublist L k).map _).nodup hn2
def RemQ (L L' : List Ent) (id : Int) (ok : Bool) : Prop := (ok = false ∧ L' = L ∧ ∀ e ∈ L, e.id ≠ id) ∨ ∃ (k : Nat) (hk : k < L.length), L[k].id = id ∧ ok = true ∧ L' = L.eraseIdx k

set_option maxRecDepth 100000 in
set_option maxHeartbeats 8000000 in
theorem remove_calls {p bi bw : Nat} {room turns : Int} {lv : Value} {L : List Ent} {W : List (Key × Nat)} (id : Int) (hid : wfI id) (w : World) (h : QAt w p room turns lv bi bw L W) (hl : L.length ≤ 5864062014805) :
    Calls Tryd.prog 35 #[eP p, .int .i64 id] w
      fun e w' => ∃ L' lv' W' ok, e = .returned (.bool ok) ∧ RemQ L L' id ok ∧ QAt w' p room turns lv' bi bw L' W' ∧ But w w' (OfQ p lv bi bw L W) ∧ ∀ i, OfQ p lv' bi bw L' W' i → OfQ p lv bi bw L W i ∨ w.heap.size ≤ i := by
  have c3 : w.cell? ⟨p, 3, none⟩ = some (.map (some bi)) := h.blk.cell 3
  have hlook := h.look_id hid false
  have H := Lib.hid h
  clear h
  unfold eP
  by_cases hex : ∃ e ∈ L, e.id = id
  · obtain ⟨k, hk, hkid⟩ : ∃ k, ∃ hk : k < L.length, L[k].id = id := ⟨_, place_lt hex⟩
    rw [mget_there H.out.idn hk hkid] at hlook
    simp only [Option.map_some, Option.getD_some, Bool.false_eq_true, if_false] at hlook
    obtain ⟨y, hy⟩ : ∃ y, L[k] = y := ⟨_, rfl⟩
    rw [hy] at hlook hkid
    unfold eP at hlook
    obtain ⟨W1, hW1⟩ : ∃ X, w.alloc (.cells #[.pointer (some ⟨y.b, 0, none⟩)] 63) = X := ⟨_, rfl⟩
    obtain ⟨bx, hbx⟩ : ∃ q, w.heap.size = q := ⟨_, rfl⟩
    have hb1 : Below w.heap.size w W1 := hW1 ▸ (Below.refl _ _).alloc (Nat.le_refl _) _
    have hx1 : Blk W1 bx 63 #[.pointer (some ⟨y.b, 0, none⟩)] := by rw [← hW1, ← hbx]; exact Blk.new _ _ _
    have hq1 := H.out.below hb1
    have d3 : W1.cell? ⟨p, 3, none⟩ = some (.map (some bi)) := hq1.blk.cell 3
    have d0 : W1.cell? ⟨bx, 0, none⟩ = some (.pointer (some ⟨y.b, 0, none⟩)) := hx1.cell 0
    obtain ⟨W2, hrun2, hR2, hM2, hB2⟩ := rm_ids hq1 hk
    rw [hy, hkid] at hrun2
    have hx2 := hx1.but hB2 (fun e => blk_map_ne hx1 hq1.ids e)
    have hybm : y ∈ L := hy ▸ List.getElem_mem hk
    have e0 : W2.cell? ⟨bx, 0, none⟩ = some (.pointer (some ⟨y.b, 0, none⟩)) := hx2.cell 0
    have e2 : W2.cell? ⟨y.b, 2, none⟩ = some (.slice y.A y.keys.length y.c) := (hR2.ents y hybm).cell 2
    have hbw2 : But w W2 (OfQ p lv bi bw L W) := (But.of_below hb1 _).trans hB2 (fun i _ e => .inr (.inr (.inl e)))
    have HY := Lib.hid hy
    have HYM := Lib.hid hybm
    have HKI := Lib.hid hkid
    have HR2 := Lib.hid hR2
    have HM2 := Lib.hid hM2
    have HX2 := Lib.hid hx2
    have HBW2 := Lib.hid hbw2
    have HBXW : Hid (w.heap.size ≤ bx) := by show _ ≤ _; omega
    clear hy hkid hb1 hx1 hq1 hR2 hM2 hB2 hx2 hybm hbw2 hex
    go_enter Tryd.func35, Tryd.ntmps35
    go_wp2_with (fail)
    have hqf : ∀ V, But W2 V (fun j => j = bw ∨ ∃ k, (k, j) ∈ W) → QRm V p room turns lv bi bw L k ∧ Blk V bx 63 #[.pointer (some ⟨y.b, 0, none⟩)] := fun V hV => by
      have hmap : ∀ j, (j = bw ∨ ∃ k, (k, j) ∈ W) → ∃ (K V : Type) (ek : K → Value) (ev : V → Value) (M : List (K × V)), MapT ek ev W2 j M ∧ j ≠ bi := fun j hj => by
        rcases hj with rfl | ⟨z, hz⟩
        · exact ⟨_, _, _, _, _, HM2.out.top, Ne.symm H.out.bne⟩
        · exact ⟨_, _, _, _, _, HM2.out.inn z j hz, H.out.biW z j hz⟩
      refine ⟨HR2.out.map_but hV hmap, HX2.out.but hV (fun hs => ?_)⟩
      obtain ⟨K, V', ek, ev, M, hm, _⟩ := hmap _ hs
      exact blk_map_ne HX2.out hm rfl
    have HQF := Lib.hid hqf
    have hst0 : RemR W2 W2 p room turns lv bi bw L y.b W (y.keys.take 0) W := ⟨HM2.out.congr (fun z => by rw [List.take_zero, rmF_nil]), fun _ _ h => h, fun z => by rw [List.take_zero, rmF_nil]; exact H.out.wts.has z, But.refl _ _⟩
    have HST0 := Lib.hid hst0
    have hyk : y.keys.length ≤ 9223372036854775807 := by
      have := own_capQ (HR2.out.keysR y HYM.out)
      have h2 : y.c ≤ maxLen := by
        rcases (HR2.out.keysR y HYM.out).2 with ⟨h, h0⟩ | ⟨g, cap, cur, h, _, _, hn, hc, _⟩
        · unfold Ent.kv at h; injection h with _ _ h3; omega
        · unfold Ent.kv at h; injection h with _ _ h3; omega
      unfold maxLen at h2
      omega
    clear hqf hst0 e0 e2 hrun2 d3 d0 hlook c3
    go_loopw [26] (fun ii wr => ∃ (i : Nat) (Wi : List (Key × Nat)), i ≤ y.keys.length ∧ ii = .int .i64 i ∧ RemR W2 wr p room turns lv bi bw L y.b W (y.keys.take i) Wi) (fun ii _ => y.keys.length - (intOf ii).toNat)
    case atStart => exact ⟨0, W, Nat.zero_le _, rfl, HST0.out⟩
    case round =>
      obtain ⟨i, Wi, hi, rfl, hR⟩ := hrel
      by_cases hlt : i < y.keys.length
      · have hil : (i : Int) < y.keys.length := by omega
        have hF := HQF.out wr hR.but
        obtain ⟨ad, hya, hadb, k0, k1⟩ := keys_at (Reads.of_own (hF.1.keysR y HYM.out)) hlt
        rw [hya]
        have hT : y.keys.take (i + 1) = y.keys.take i ++ [y.keys[i]] := List.take_succ_eq_append_getElem hlt
        generalize y.keys[i] = x at k0 k1 hT
        generalize hpre : y.keys.take i = pre at hR hT
        have HT := Lib.hid hT
        obtain ⟨gk, hgk⟩ : ∃ q, wr.heap.size = q := ⟨_, rfl⟩
        obtain ⟨W4, hW4⟩ : ∃ X, wr.alloc (.cells #[.int .i64 x.acc, .int .i64 x.ast] 48) = X := ⟨_, rfl⟩
        have hb4 : Below wr.heap.size wr W4 := hW4 ▸ (Below.refl _ _).alloc (Nat.le_refl _) _
        have hg4 : Blk W4 gk 48 #[.int .i64 x.acc, .int .i64 x.ast] := by rw [← hW4, ← hgk]; exact Blk.new _ _ _
        have HR4 := Lib.hid (hR.below hb4)
        have HG4 := Lib.hid hg4
        clear hR hF hT hpre hb4 hg4
        cases hm : mget Wi x with
        | none =>
          have HM := Lib.hid hm
          clear hm
          go_upto_region 8 with fail
          clear k0 k1 hW4 hgk
          obtain ⟨Da, hDa⟩ : ∃ X, W4.drew = X := ⟨_, rfl⟩
          have hbDa : Below W4.heap.size W4 Da := hDa ▸ (Below.refl _ _).drew
          have hRDa := HR4.out.below hbDa
          have hGDa := HG4.out.below hbDa HG4.out.lt
          have hFDa := HQF.out Da hRDa.but
          have y4 : Da.cell? ⟨p, 4, none⟩ = some (.map (some bw)) := hFDa.1.blk.cell 4
          have y5 : Da.cell? ⟨gk, 0, none⟩ = some (.int .i64 x.acc) := hGDa.cell 0
          have y6 : Da.cell? ⟨gk, 1, none⟩ = some (.int .i64 x.ast) := hGDa.cell 1
          have y7 : Da.cell? ⟨bx, 0, none⟩ = some (.pointer (some ⟨y.b, 0, none⟩)) := hFDa.2.cell 0
          have hlook := hRDa.wm.top.look (keyE_key Da) (fun _ _ => trivial) (x := x) trivial Tryd.underlying58 (z := .map none) (by kernel_rfl) false
          rw [HM.out] at hlook
          simp only [Option.map_some, Option.map_none, Option.getD_some, Option.getD_none, Bool.false_eq_true, if_false] at hlook
          unfold eK at hlook
          have hdn := delNil Da y.b 0
          have hNone := hRDa.none_ HM.out
          have HRa := Lib.hid hRDa
          have HGa := Lib.hid hGDa
          have HNa := Lib.hid hNone
          clear hbDa hRDa hGDa hFDa hNone
          refine region_tail 7 (by kernel_rfl) (by kernel_rfl) ?_
          rw [hDa]
          simp only [List.take_succ_cons, List.take_zero, List.drop_succ_cons, List.drop_zero]
          repeat still_step
          refine wpStill_nil ?_
          clear hlook y4 y5 y6 y7
          go_wp2_with (fail)
          obtain ⟨Db, hDb⟩ : ∃ X, Da.drew = X := ⟨_, rfl⟩
          have hbDb : Below Da.heap.size Da Db := hDb ▸ (Below.refl _ _).drew
          have hRDb := HRa.out.below hbDb
          have hGDb := HGa.out.below hbDb HGa.out.lt
          have hFDb := HQF.out Db hRDb.but
          have y4 : Db.cell? ⟨p, 4, none⟩ = some (.map (some bw)) := hFDb.1.blk.cell 4
          have y5 : Db.cell? ⟨gk, 0, none⟩ = some (.int .i64 x.acc) := hGDb.cell 0
          have y6 : Db.cell? ⟨gk, 1, none⟩ = some (.int .i64 x.ast) := hGDb.cell 1
          have y7 : Db.cell? ⟨bx, 0, none⟩ = some (.pointer (some ⟨y.b, 0, none⟩)) := hFDb.2.cell 0
          have hlook := hRDb.wm.top.look (keyE_key Db) (fun _ _ => trivial) (x := x) trivial Tryd.underlying58 (z := .map none) (by kernel_rfl) false
          rw [HM.out] at hlook
          simp only [Option.map_some, Option.map_none, Option.getD_some, Option.getD_none, Bool.false_eq_true, if_false] at hlook
          unfold eK at hlook
          have HRb := Lib.hid hRDb
          have HGb := Lib.hid hGDb
          have HNb := Lib.hid (HNa.out.below hbDb)
          clear hbDb hRDb hGDb hFDb
          refine region_tail 7 (by kernel_rfl) (by kernel_rfl) ?_
          rw [hDb]
          simp only [List.take_succ_cons, List.take_zero, List.drop_succ_cons, List.drop_zero]
          repeat still_step
          refine wpStill_nil ?_
          clear hlook y4 y5 y6 y7
          go_wp2_with (fail)
          obtain ⟨Dc, hDc⟩ : ∃ X, Db.drew = X := ⟨_, rfl⟩
          have hbDc : Below Db.heap.size Db Dc := hDc ▸ (Below.refl _ _).drew
          have hRDc := HRb.out.below hbDc
          have hGDc := HGb.out.below hbDc HGb.out.lt
          have hFDc := HQF.out Dc hRDc.but
          have y4 : Dc.cell? ⟨p, 4, none⟩ = some (.map (some bw)) := hFDc.1.blk.cell 4
          have y5 : Dc.cell? ⟨gk, 0, none⟩ = some (.int .i64 x.acc) := hGDc.cell 0
          have y6 : Dc.cell? ⟨gk, 1, none⟩ = some (.int .i64 x.ast) := hGDc.cell 1
          have y7 : Dc.cell? ⟨bx, 0, none⟩ = some (.pointer (some ⟨y.b, 0, none⟩)) := hFDc.2.cell 0
          have hlook := hRDc.wm.top.look (keyE_key Dc) (fun _ _ => trivial) (x := x) trivial Tryd.underlying58 (z := .map none) (by kernel_rfl) false
          rw [HM.out] at hlook
          simp only [Option.map_some, Option.map_none, Option.getD_some, Option.getD_none, Bool.false_eq_true, if_false] at hlook
          unfold eK at hlook
          obtain ⟨V, hrunV, hmV, hgV, _⟩ := hRDc.wm.top.del (P := Tryd.prog) (keyE_key Dc) (fun _ _ => trivial) (x := x) trivial Tryd.underlying58 0
          unfold eK at hrunV
          have hNc := HNb.out.below hbDc
          have h0 : rmF L y.b (pre ++ [x]) x = [] := Classical.byContradiction (fun q => by obtain ⟨m, hm⟩ := (hNc.has x).2 q; exact mget_no HM.out m hm)
          have HS := Lib.hid (hRDc.drop ⟨hNc.wm, hNc.but⟩ h0 hmV hgV)
          clear hbDc hRDc hGDc hFDc hmV hgV hNc h0
          refine region_tail 5 (by kernel_rfl) (by kernel_rfl) ?_
          rw [hDc]
          simp only [List.take_succ_cons, List.take_zero, List.drop_succ_cons, List.drop_zero]
          repeat still_step
          refine wpStill_nil ?_
          clear hlook y4 y5 y6 y7
          go_wp2_with (fail)
          go_roundw
          case rel => exact ⟨i + 1, _, by omega, by go_num, by rw [HT.out]; exact HS.out⟩
          case measure => simp [intOf]; omega
        | some m =>
          have HM := Lib.hid hm
          have HMEM := Lib.hid (mget_mem hm)
          clear hm
          go_upto_region 8 with fail
          clear k0 k1 hW4 hgk
          obtain ⟨Da, hDa⟩ : ∃ X, W4.drew = X := ⟨_, rfl⟩
          have hbDa : Below W4.heap.size W4 Da := hDa ▸ (Below.refl _ _).drew
          have hRDa := HR4.out.below hbDa
          have hGDa := HG4.out.below hbDa HG4.out.lt
          have hFDa := HQF.out Da hRDa.but
          have y4 : Da.cell? ⟨p, 4, none⟩ = some (.map (some bw)) := hFDa.1.blk.cell 4
          have y5 : Da.cell? ⟨gk, 0, none⟩ = some (.int .i64 x.acc) := hGDa.cell 0
          have y6 : Da.cell? ⟨gk, 1, none⟩ = some (.int .i64 x.ast) := hGDa.cell 1
          have y7 : Da.cell? ⟨bx, 0, none⟩ = some (.pointer (some ⟨y.b, 0, none⟩)) := hFDa.2.cell 0
          have hlook := hRDa.wm.top.look (keyE_key Da) (fun _ _ => trivial) (x := x) trivial Tryd.underlying58 (z := .map none) (by kernel_rfl) false
          rw [HM.out] at hlook
          simp only [Option.map_some, Option.map_none, Option.getD_some, Option.getD_none, Bool.false_eq_true, if_false] at hlook
          unfold eK at hlook
          unfold eM at hlook
          have hent : IsEnt Da y.b := ⟨_, hFDa.1.ents y HYM.out⟩
          have hkS : ∀ q ∈ rmF L y.b pre x, IsEnt Da q.1 := fun q hq => by
            have hq2 : q ∈ waitsL L x := by
              unfold rmF at hq
              split at hq
              · unfold mdel at hq; exact (List.mem_filter.1 hq).1
              · exact hq
            obtain ⟨e, he, h1, _⟩ := waits_mem hq2
            exact ⟨_, h1 ▸ hFDa.1.ents e he⟩
          have hin := hRDa.wm.inn x m HMEM.out
          obtain ⟨V1, hrun1, hm1, hg1, _⟩ := hin.del (P := Tryd.prog) (keyE_ent Da) hkS hent Tryd.underlying74 0
          rw [rmF_step] at hm1
          unfold eP at hrun1
          have hset := hRDa.set HMEM.out hm1 hg1
          have hG1 : Blk V1 gk 48 #[.int .i64 x.acc, .int .i64 x.ast] := hGDa.but (grown_but hg1) (blk_map_ne hGDa hin)
          have HR4b := Lib.hid hRDa
          have HSET := Lib.hid hset
          have HG1 := Lib.hid hG1
          clear hbDa hRDa hGDa hFDa hent hkS hin hm1 hg1 hset hG1
          refine region_tail 7 (by kernel_rfl) (by kernel_rfl) ?_
          rw [hDa]
          simp only [List.take_succ_cons, List.take_zero, List.drop_succ_cons, List.drop_zero]
          repeat still_step
          refine wpStill_nil ?_
          clear hlook y4 y5 y6 y7
          go_wp2_with (fail)
          obtain ⟨Db, hDb⟩ : ∃ X, V1.drew = X := ⟨_, rfl⟩
          have hbDb : Below V1.heap.size V1 Db := hDb ▸ (Below.refl _ _).drew
          have hWDb := HSET.out.1.below hbDb
          have hBDb := HSET.out.2.trans (But.of_below hbDb (fun _ => False)) (fun _ _ h => h.elim)
          have hGDb := HG1.out.below hbDb HG1.out.lt
          have hFDb := HQF.out Db hBDb
          have y4 : Db.cell? ⟨p, 4, none⟩ = some (.map (some bw)) := hFDb.1.blk.cell 4
          have y5 : Db.cell? ⟨gk, 0, none⟩ = some (.int .i64 x.acc) := hGDb.cell 0
          have y6 : Db.cell? ⟨gk, 1, none⟩ = some (.int .i64 x.ast) := hGDb.cell 1
          have y7 : Db.cell? ⟨bx, 0, none⟩ = some (.pointer (some ⟨y.b, 0, none⟩)) := hFDb.2.cell 0
          have hlook := hWDb.top.look (keyE_key Db) (fun _ _ => trivial) (x := x) trivial Tryd.underlying58 (z := .map none) (by kernel_rfl) false
          rw [HM.out] at hlook
          simp only [Option.map_some, Option.getD_some, Bool.false_eq_true, if_false] at hlook
          unfold eK eM at hlook
          have HWDb := Lib.hid (And.intro hWDb hBDb)
          have HGDb := Lib.hid hGDb
          have hlen9 := fun ty => (hWDb.inn x m HMEM.out).len (P := Tryd.prog) Tryd.underlying74 ty
          obtain ⟨rl, hrl⟩ : ∃ rl, rmF L y.b (pre ++ [x]) x = rl := ⟨_, rfl⟩
          rw [hrl] at hlen9
          have HRL := Lib.hid hrl
          clear hbDb hWDb hBDb hGDb hFDb hrl
          cases rl with
          | nil =>
            refine region_tail 7 (by kernel_rfl) (by kernel_rfl) ?_
            rw [hDb]
            simp only [List.take_succ_cons, List.take_zero, List.drop_succ_cons, List.drop_zero]
            repeat still_step
            refine wpStill_nil ?_
            clear hlook y4 y5 y6 y7 hlen9
            go_wp2_with (fail)
            obtain ⟨Dc, hDc⟩ : ∃ X, Db.drew = X := ⟨_, rfl⟩
            have hbDc : Below Db.heap.size Db Dc := hDc ▸ (Below.refl _ _).drew
            have hWDc := HWDb.out.1.below hbDc
            have hBDc := HWDb.out.2.trans (But.of_below hbDc (fun _ => False)) (fun _ _ h => h.elim)
            have hGDc := HGDb.out.below hbDc HGDb.out.lt
            have hFDc := HQF.out Dc hBDc
            have y4 : Dc.cell? ⟨p, 4, none⟩ = some (.map (some bw)) := hFDc.1.blk.cell 4
            have y5 : Dc.cell? ⟨gk, 0, none⟩ = some (.int .i64 x.acc) := hGDc.cell 0
            have y6 : Dc.cell? ⟨gk, 1, none⟩ = some (.int .i64 x.ast) := hGDc.cell 1
            have y7 : Dc.cell? ⟨bx, 0, none⟩ = some (.pointer (some ⟨y.b, 0, none⟩)) := hFDc.2.cell 0
            have hlook := hWDc.top.look (keyE_key Dc) (fun _ _ => trivial) (x := x) trivial Tryd.underlying58 (z := .map none) (by kernel_rfl) false
            rw [HM.out] at hlook
            simp only [Option.map_some, Option.getD_some, Bool.false_eq_true, if_false] at hlook
            unfold eK eM at hlook
            have HWDc := Lib.hid (And.intro hWDc hBDc)
            have HGDc := Lib.hid hGDc
            obtain ⟨V, hrunV, hmV, hgV, _⟩ := hWDc.top.del (P := Tryd.prog) (keyE_key Dc) (fun _ _ => trivial) (x := x) trivial Tryd.underlying58 0
            unfold eK at hrunV
            have HS := Lib.hid (HR4b.out.drop ⟨hWDc, hBDc⟩ HRL.out hmV hgV)
            clear hbDc hWDc hBDc hGDc hFDc hmV hgV
            refine region_tail 5 (by kernel_rfl) (by kernel_rfl) ?_
            rw [hDc]
            simp only [List.take_succ_cons, List.take_zero, List.drop_succ_cons, List.drop_zero]
            repeat still_step
            refine wpStill_nil ?_
            clear hlook y4 y5 y6 y7
            go_wp2_with (fail)
            go_roundw
            case rel => exact ⟨i + 1, _, by omega, by go_num, by rw [HT.out]; exact HS.out⟩
            case measure => simp [intOf]; omega
          | cons q rl =>
            have hnz : ((((q :: rl).length : Nat) : Int) == 0) = false := by rw [beq_eq_false_iff_ne]; simp only [List.length_cons]; omega
            have HS := Lib.hid (HR4b.out.keep HMEM.out HWDb.out (by rw [HRL.out]; simp))
            refine region_tail 7 (by kernel_rfl) (by kernel_rfl) ?_
            rw [hDb]
            simp only [List.take_succ_cons, List.take_zero, List.drop_succ_cons, List.drop_zero]
            repeat still_step
            refine wpStill_nil ?_
            clear hlook y4 y5 y6 y7 hlen9
            go_wp2_with (fail)
            go_roundw
            case rel => exact ⟨i + 1, _, by omega, by go_num, by rw [HT.out]; exact HS.out⟩
            case measure => simp [intOf]; omega
      · obtain rfl : i = y.keys.length := by omega
        rw [List.take_length] at hR
        obtain ⟨LA, lc, rfl⟩ := own_slice H.out.row
        have hF := HQF.out wr hR.but
        have hjb : (L.map (·.b)).length = L.length := List.length_map ..
        have hkb : k < (L.map (·.b)).length := by rw [hjb]; exact hk
        have hrow : wr.ownsRow 0 63 1 (.slice LA (L.map (·.b)).length lc) (L.map (·.b)).length ((L.map (·.b)).map eP) := by
          have := hF.1.row
          rw [hjb, List.map_map]
          exact this
        have hdel := deleteQ_calls (L.map (·.b)) LA lc bx y.b k wr hrow (fun b hb => by obtain ⟨e, he, rfl⟩ := List.mem_map.1 hb; exact ⟨_, hF.1.ents e he⟩) hF.2 (fun e => by
            have h1 : (Value.slice LA L.length lc).ownBlock = some bx := by rw [← hjb]; exact e
            have h2 := own_lt H.out.row h1
            have h3 := HBXW.out
            omega) hkb (by rw [List.getElem_map, HY.out]) (fun j hj hjk e => by
            have key := List.pairwise_iff_getElem.1 H.out.bn
            have e2 : (L.map (·.b))[j] = (L.map (·.b))[k] := by rw [e, List.getElem_map, HY.out]
            rcases Nat.lt_or_ge j k with h1 | h1
            · exact key j k hj hkb h1 e2
            · exact key k j hkb hj (by omega) e2.symm) (by rw [hjb]; exact hl)
        rw [hjb] at hdel
        have q2 : wr.cell? ⟨p, 2, none⟩ = some (.slice LA L.length lc) := hF.1.blk.cell 2
        have HD := Lib.hid hdel
        have HF := Lib.hid hF
        have HRR := Lib.hid hR
        clear hjb hkb hrow hdel hF hR
        go_wp2_with (fail)
        refine HD.out.mono ?_
        rintro e w5 ⟨rfl, hown5, hb5⟩
        have hend : ∀ z, rmF L y.b y.keys z = waitsL (L.eraseIdx k) z := fun z => by have := rmF_end H.out.bn hk z; rw [HY.out] at this; exact this
        have hq := rm_end (w5 := w5) HF.out.1 HRR.out.wm hend HRR.out.has (fun z m hm => H.out.biW z m (HRR.out.sub z m hm)) H.out.bne hk H.out.idn H.out.bn H.out.wf hown5 hb5
        have hbl : Blk w5 p 61 #[.int .i64 room, .int .i64 turns, .slice LA L.length lc, eM bi, eM bw] := HF.out.1.blk.but hb5 (own_blk_ne HF.out.1.row HF.out.1.blk (by decide))
        have r2 : w5.cell? ⟨p, 2, none⟩ = some (.slice LA L.length lc) := hbl.cell 2
        have rf : w5.frozen? ⟨p, 2, none⟩ = false := hbl.frozen 2
        have hbq : But w (w5.setCell ⟨p, 2, none⟩ (.slice LA (L.length - 1) lc)) (OfQ p (.slice LA L.length lc) bi bw L W) :=
          ((HBW2.out.trans HRR.out.but (fun j _ hj => hj.elim (fun h => .inr (.inr (.inr (.inl h)))) (fun h => .inr (.inr (.inr (.inr (.inr h))))))).trans hb5 (fun j _ hj => .inr (.inl hj))).setCell (fun _ => .inl rfl) _
        have hnew : ∀ j, OfQ p (.slice LA (L.length - 1) lc) bi bw (L.eraseIdx k) Wi j → OfQ p (.slice LA L.length lc) bi bw L W j ∨ w.heap.size ≤ j := by
          rintro j (hj | hj | hj | hj | ⟨e, he, hj⟩ | ⟨z, hm⟩)
          · exact .inl (.inl hj)
          · refine .inl (.inr (.inl ?_))
            cases LA with
            | none => cases hj
            | some a => exact hj
          · exact .inl (.inr (.inr (.inl hj)))
          · exact .inl (.inr (.inr (.inr (.inl hj))))
          · exact .inl (.inr (.inr (.inr (.inr (.inl ⟨e, List.mem_of_mem_eraseIdx he, hj⟩)))))
          · exact .inl (.inr (.inr (.inr (.inr (.inr ⟨z, HRR.out.sub z j hm⟩)))))
        have HQQ := Lib.hid hq
        have HBQ := Lib.hid hbq
        have HNW := Lib.hid hnew
        clear hown5 hb5 hend hq hbl hbq hnew
        go_wp2
        go_ret
        exact ⟨_, _, _, _, rfl, .inr ⟨k, hk, by rw [HY.out]; exact HKI.out, rfl, rfl⟩, HQQ.out, HBQ.out, HNW.out⟩
  · have hno : ∀ e ∈ L, e.id ≠ id := fun e he hh => hex ⟨e, he, hh⟩
    rw [mget_not hno] at hlook
    simp only [Option.map_none, Option.getD_none, Bool.false_eq_true, if_false] at hlook
    have HNO := Lib.hid hno
    clear hex hno
    go_enter Tryd.func35, Tryd.ntmps35
    go_wp2
    go_ret
    have hal : Below w.heap.size w (w.alloc (.cells #[.pointer none] 63)) := (Below.refl _ _).alloc (Nat.le_refl _) _
    exact ⟨L, lv, W, _, rfl, .inl ⟨rfl, rfl, HNO.out⟩, H.out.below hal, But.of_below hal _, fun i hi => .inl hi⟩
end Go.Proofs.YtmcknfpohnobdaaDoor
