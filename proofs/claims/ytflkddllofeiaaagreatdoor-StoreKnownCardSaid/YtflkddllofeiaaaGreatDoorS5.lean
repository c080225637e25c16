/- Store: Last, At (printed by gen_s5.py). -/
import Derived.Test.YtflkddllofeiaaaGreatDoorS4
namespace Go.Proofs.YtflkddllofeiaaaGreatDoor
set_option linter.unusedSimpArgs false
set_option linter.unusedVariables false
open Go.RowKit Go.MapKept Go.ChangeMaps Go.Maps

set_option maxRecDepth 100000 in
set_option maxHeartbeats 2000000 in
theorem lastS_calls (s : StV) (k : Key) (w : World) (h : StAt w s) :
    Calls Tryz.prog 28 #[.pointer (some ⟨s.p, 0, none⟩), .agg #[.int .i64 k.acc, .int .i64 k.ast]] w fun e w' => e = .returned (.tuple #[.string (lastV (getR s.rows k)), .int .i64 (lastM (getR s.rows k)), .bool (decide (0 < (getR s.rows k).length))]) ∧ Below w.heap.size w w' := by
  have hb0 : Below w.heap.size w (w.alloc (.cells #[.int .i64 k.acc, .int .i64 k.ast] 33)) := (Below.refl _ _).alloc (Nat.le_refl _) _
  have hB := Blk.new w 33 #[.int .i64 k.acc, .int .i64 k.ast]
  obtain ⟨W, hW⟩ : ∃ X, w.alloc (.cells #[.int .i64 k.acc, .int .i64 k.ast] 33) = X := ⟨_, rfl⟩
  obtain ⟨g, hg⟩ : ∃ g, w.heap.size = g := ⟨_, rfl⟩
  rw [hW] at hb0 hB
  have hd : Below W.heap.size W W.drew := (Below.refl _ _).drew
  have h1 := (h.below hb0).below hd
  rw [hg] at hB
  have q0 : W.cell? ⟨g, 0, none⟩ = some (.int .i64 k.acc) := hB.cell 0
  have q1 : W.cell? ⟨g, 1, none⟩ = some (.int .i64 k.ast) := hB.cell 1
  have hsh := shardS_calls s k W.drew h1
  obtain ⟨m, hm⟩ : ∃ m, s.map k = m := ⟨_, rfl⟩
  have hmap : ∀ w4, Below W.drew.heap.size W.drew w4 → StAt w4 s ∧ Below w.heap.size w w4 := fun w4 hb4 => ⟨h1.below hb4, hb0.trans ((hd.trans hb4).mono hb0.size)⟩
  have HB0 := Lib.hid hb0
  have HMAP := Lib.hid hmap
  have HW := Lib.hid hW
  have HG := Lib.hid hg
  rcases h.cases k with ⟨a, c, b, P, Q, hs, hc, hf, hn1, hn2⟩ | ⟨P, Q, hc, hf, hn1, hn2⟩
  · have hlook : ∀ w4, Below W.drew.heap.size W.drew w4 → (Instr.lookup 59 (.map (some m)) (.agg #[.int .i64 k.acc, .int .i64 k.ast]) true).run Tryz.prog w4 = .ok (.tuple #[.pointer (some ⟨c.p, 0, none⟩), .bool true]) w4 := fun w4 hb4 => by
      have := (hmap w4 hb4).1.look_some hs hn1 true
      rw [hm] at this
      simpa using this
    have hmem : (k, c) ∈ s.chs := by rw [hc]; simp
    have hget : getR s.rows k = c.L := by
      unfold StV.rows; rw [hc]; exact (rows_turned (c' := c) hn2).2
    rw [hget]
    have hch : ∀ w4, Below W.drew.heap.size W.drew w4 → Chn w4 c.p c.sv c.L := fun w4 hb4 => (hmap w4 hb4).1.chs _ hmem
    rw [hm] at hsh
    have HLOOK := Lib.hid hlook
    have HCH := Lib.hid hch
    have HSH := Lib.hid hsh
    clear hlook hch hsh hmem hget hs hc hf hn1 hn2 hmap hb0 hB hd h1 hW hg hm h
    go_enter Tryz.func28, Tryz.ntmps28
    go_wp2_with (fail)
    rw [HW.out, HG.out]
    go_region_held3 (fun w' => w'.cell? ⟨g, 0, none⟩ = some (.int .i64 k.acc) ∧ w'.cell? ⟨g, 1, none⟩ = some (.int .i64 k.ast))
      (first | go_keep | fail)
      ((go_at_call 64; refine HSH.out.mono ?_; rintro e w4 ⟨rfl, hb4⟩; have r0 : w4.cell? ⟨g, 0, none⟩ = some (.int .i64 k.acc) := cell_below (w := W.drew) hb4 q0; have r1 : w4.cell? ⟨g, 1, none⟩ = some (.int .i64 k.ast) := cell_below (w := W.drew) hb4 q1; have hlk := HLOOK.out w4 hb4; have HB4 := Lib.hid hb4; clear hb4))
    have hcc := last_calls w4 (HCH.out w4 HB4.out)
    have HCC := Lib.hid hcc
    clear hcc hlk
    go_wp2_with (fail)
    refine HCC.out.mono ?_
    rintro e w5 ⟨rfl, hb5⟩
    have HB5 := Lib.hid ((HMAP.out w4 HB4.out).2.trans (hb5.mono (HMAP.out w4 HB4.out).2.size))
    clear hb5
    go_wp2
    exact bodyPost_ret (v := .tuple #[.string (lastV c.L), .int .i64 (lastM c.L), .bool (decide (0 < c.L.length))]) (by simp [results, Tryz.results28, go_sem]) rfl ⟨rfl, HB5.out⟩
  · have hlook : ∀ w4, Below W.drew.heap.size W.drew w4 → (Instr.lookup 59 (.map (some m)) (.agg #[.int .i64 k.acc, .int .i64 k.ast]) true).run Tryz.prog w4 = .ok (.tuple #[.pointer none, .bool false]) w4 := fun w4 hb4 => by
      have := (hmap w4 hb4).1.look_none hn1 true
      rw [hm] at this
      simpa using this
    have hget : getR s.rows k = [] := by
      unfold StV.rows; rw [hc]; exact (rows_none (c' := ⟨0, .slice none 0 0, []⟩) hn2).2
    rw [hget]
    rw [hm] at hsh
    have HLOOK := Lib.hid hlook
    have HSH := Lib.hid hsh
    clear hlook hsh hget hc hf hn1 hn2 hmap hb0 hB hd h1 hW hg hm h
    go_enter Tryz.func28, Tryz.ntmps28
    go_wp2_with (fail)
    rw [HW.out, HG.out]
    go_region_held3 (fun w' => w'.cell? ⟨g, 0, none⟩ = some (.int .i64 k.acc) ∧ w'.cell? ⟨g, 1, none⟩ = some (.int .i64 k.ast))
      (first | go_keep | fail)
      ((go_at_call 64; refine HSH.out.mono ?_; rintro e w4 ⟨rfl, hb4⟩; have r0 : w4.cell? ⟨g, 0, none⟩ = some (.int .i64 k.acc) := cell_below (w := W.drew) hb4 q0; have r1 : w4.cell? ⟨g, 1, none⟩ = some (.int .i64 k.ast) := cell_below (w := W.drew) hb4 q1; have hlk := HLOOK.out w4 hb4; have HB4 := Lib.hid hb4; clear hb4))
    clear hlk
    have HB5 := Lib.hid (HMAP.out w4 HB4.out).2
    go_wp2
    exact bodyPost_ret (v := .tuple #[.string ⟨#[]⟩, .int .i64 0, .bool false]) (by simp [results, Tryz.results28, go_sem]) rfl ⟨rfl, HB5.out⟩
set_option maxRecDepth 100000 in
set_option maxHeartbeats 2000000 in
theorem atS_calls (s : StV) (k : Key) (n : Int) (w : World) (h : StAt w s) :
    Calls Tryz.prog 31 #[.pointer (some ⟨s.p, 0, none⟩), .agg #[.int .i64 k.acc, .int .i64 k.ast], .int .i64 n] w fun e w' => e = .returned (.tuple #[.string (atV (getR s.rows k) n), .bool (decide (0 < leN (getR s.rows k) n))]) ∧ Below w.heap.size w w' := by
  have hb0 : Below w.heap.size w (w.alloc (.cells #[.int .i64 k.acc, .int .i64 k.ast] 33)) := (Below.refl _ _).alloc (Nat.le_refl _) _
  have hB := Blk.new w 33 #[.int .i64 k.acc, .int .i64 k.ast]
  obtain ⟨W, hW⟩ : ∃ X, w.alloc (.cells #[.int .i64 k.acc, .int .i64 k.ast] 33) = X := ⟨_, rfl⟩
  obtain ⟨g, hg⟩ : ∃ g, w.heap.size = g := ⟨_, rfl⟩
  rw [hW] at hb0 hB
  have hd : Below W.heap.size W W.drew := (Below.refl _ _).drew
  have h1 := (h.below hb0).below hd
  rw [hg] at hB
  have q0 : W.cell? ⟨g, 0, none⟩ = some (.int .i64 k.acc) := hB.cell 0
  have q1 : W.cell? ⟨g, 1, none⟩ = some (.int .i64 k.ast) := hB.cell 1
  have hsh := shardS_calls s k W.drew h1
  obtain ⟨m, hm⟩ : ∃ m, s.map k = m := ⟨_, rfl⟩
  have hmap : ∀ w4, Below W.drew.heap.size W.drew w4 → StAt w4 s ∧ Below w.heap.size w w4 := fun w4 hb4 => ⟨h1.below hb4, hb0.trans ((hd.trans hb4).mono hb0.size)⟩
  have HB0 := Lib.hid hb0
  have HMAP := Lib.hid hmap
  have HW := Lib.hid hW
  have HG := Lib.hid hg
  rcases h.cases k with ⟨a, c, b, P, Q, hs, hc, hf, hn1, hn2⟩ | ⟨P, Q, hc, hf, hn1, hn2⟩
  · have hlook : ∀ w4, Below W.drew.heap.size W.drew w4 → (Instr.lookup 59 (.map (some m)) (.agg #[.int .i64 k.acc, .int .i64 k.ast]) true).run Tryz.prog w4 = .ok (.tuple #[.pointer (some ⟨c.p, 0, none⟩), .bool true]) w4 := fun w4 hb4 => by
      have := (hmap w4 hb4).1.look_some hs hn1 true
      rw [hm] at this
      simpa using this
    have hmem : (k, c) ∈ s.chs := by rw [hc]; simp
    have hget : getR s.rows k = c.L := by
      unfold StV.rows; rw [hc]; exact (rows_turned (c' := c) hn2).2
    rw [hget]
    have hch : ∀ w4, Below W.drew.heap.size W.drew w4 → Chn w4 c.p c.sv c.L := fun w4 hb4 => (hmap w4 hb4).1.chs _ hmem
    rw [hm] at hsh
    have HLOOK := Lib.hid hlook
    have HCH := Lib.hid hch
    have HSH := Lib.hid hsh
    clear hlook hch hsh hmem hget hs hc hf hn1 hn2 hmap hb0 hB hd h1 hW hg hm h
    go_enter Tryz.func31, Tryz.ntmps31
    go_wp2_with (fail)
    rw [HW.out, HG.out]
    go_region_held3 (fun w' => w'.cell? ⟨g, 0, none⟩ = some (.int .i64 k.acc) ∧ w'.cell? ⟨g, 1, none⟩ = some (.int .i64 k.ast))
      (first | go_keep | fail)
      ((go_at_call 64; refine HSH.out.mono ?_; rintro e w4 ⟨rfl, hb4⟩; have r0 : w4.cell? ⟨g, 0, none⟩ = some (.int .i64 k.acc) := cell_below (w := W.drew) hb4 q0; have r1 : w4.cell? ⟨g, 1, none⟩ = some (.int .i64 k.ast) := cell_below (w := W.drew) hb4 q1; have hlk := HLOOK.out w4 hb4; have HB4 := Lib.hid hb4; clear hb4))
    have hcc := at_calls n w4 (HCH.out w4 HB4.out)
    have HCC := Lib.hid hcc
    clear hcc hlk
    go_wp2_with (fail)
    refine HCC.out.mono ?_
    rintro e w5 ⟨rfl, hb5⟩
    have HB5 := Lib.hid ((HMAP.out w4 HB4.out).2.trans (hb5.mono (HMAP.out w4 HB4.out).2.size))
    clear hb5
    go_wp2
    exact bodyPost_ret (v := .tuple #[.string (atV c.L n), .bool (decide (0 < leN c.L n))]) (by simp [results, Tryz.results31, go_sem]) rfl ⟨rfl, HB5.out⟩
  · have hlook : ∀ w4, Below W.drew.heap.size W.drew w4 → (Instr.lookup 59 (.map (some m)) (.agg #[.int .i64 k.acc, .int .i64 k.ast]) true).run Tryz.prog w4 = .ok (.tuple #[.pointer none, .bool false]) w4 := fun w4 hb4 => by
      have := (hmap w4 hb4).1.look_none hn1 true
      rw [hm] at this
      simpa using this
    have hget : getR s.rows k = [] := by
      unfold StV.rows; rw [hc]; exact (rows_none (c' := ⟨0, .slice none 0 0, []⟩) hn2).2
    rw [hget]
    rw [hm] at hsh
    have HLOOK := Lib.hid hlook
    have HSH := Lib.hid hsh
    clear hlook hsh hget hc hf hn1 hn2 hmap hb0 hB hd h1 hW hg hm h
    go_enter Tryz.func31, Tryz.ntmps31
    go_wp2_with (fail)
    rw [HW.out, HG.out]
    go_region_held3 (fun w' => w'.cell? ⟨g, 0, none⟩ = some (.int .i64 k.acc) ∧ w'.cell? ⟨g, 1, none⟩ = some (.int .i64 k.ast))
      (first | go_keep | fail)
      ((go_at_call 64; refine HSH.out.mono ?_; rintro e w4 ⟨rfl, hb4⟩; have r0 : w4.cell? ⟨g, 0, none⟩ = some (.int .i64 k.acc) := cell_below (w := W.drew) hb4 q0; have r1 : w4.cell? ⟨g, 1, none⟩ = some (.int .i64 k.ast) := cell_below (w := W.drew) hb4 q1; have hlk := HLOOK.out w4 hb4; have HB4 := Lib.hid hb4; clear hb4))
    clear hlk
    have HB5 := Lib.hid (HMAP.out w4 HB4.out).2
    go_wp2
    exact bodyPost_ret (v := .tuple #[.string ⟨#[]⟩, .bool false]) (by simp [results, Tryz.results31, go_sem]) rfl ⟨rfl, HB5.out⟩
end Go.Proofs.YtflkddllofeiaaaGreatDoor
