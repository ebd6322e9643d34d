/- The store's methods: what is read, how many, the last one. -/
import Derived.Test.YtchmlhceidociaaSdD
namespace Go.Proofs.Ytchmlhceidociaa
set_option linter.unusedVariables false
set_option linter.unusedSimpArgs false
open Go.RowKit

set_option maxRecDepth 100000 in
set_option maxHeartbeats 800000 in
theorem slen_any (p m : Nat) (v : Value) (cs : List PrC) (w : World) (hs : SdC w p v m cs) :
    Calls Try.prog 31 #[.pointer (some ⟨p, 0, none⟩)] w fun e w' => e = .returned (.int .i64 cs.length) ∧ w = w' := by
  have HM := Lib.hid (made_any p m w hs.c1 hs.blk.lt)
  have h0 := hs.c0
  have hp := hs.blk.lt
  obtain ⟨A, c, rfl, _⟩ := hs.form
  clear hs
  go_enter Try.func31, Try.ntmps31
  go_wp2_with (first
    | (go_at_call 21; refine HM.out.mono ?_; rintro e w1 ⟨rfl, rfl⟩))
  go_ret
  exact ⟨rfl, rfl⟩
set_option maxRecDepth 100000 in
set_option maxHeartbeats 800000 in
theorem sLast_none (p m : Nat) (v : Value) (w : World) (hs : SdC w p v m []) :
    Calls Try.prog 35 #[.pointer (some ⟨p, 0, none⟩)] w fun e w' => e = .returned (.tuple #[.int .i64 0, .int .i64 0, .bool false]) ∧ Below w.heap.size w w' := by
  have HM := Lib.hid (made_any p m w hs.c1 hs.blk.lt)
  have HL := Lib.hid (slast_none p m v w hs)
  have hp := hs.blk.lt
  clear hs
  go_enter Try.func35, Try.ntmps35
  go_wp2_with (first
    | (go_at_call 21; refine HM.out.mono ?_; rintro e w1 ⟨rfl, rfl⟩)
    | (go_at_call 40; refine HL.out.mono ?_; rintro e w1 ⟨rfl, hb1⟩))
  go_quiet (fail)
  go_wp2
  go_ret3
  exact ⟨rfl, ext_trans (hb1.trans (((ext_refl w1).alloc (Nat.le_refl _) _).mono hb1.size)) (drew_ext ⟨_, rfl⟩)⟩
set_option maxRecDepth 100000 in
set_option maxHeartbeats 800000 in
theorem sLast_some (p m : Nat) (v : Value) (cs : List PrC) (c : PrC) (w : World) (hs : SdC w p v m (cs ++ [c])) :
    Calls Try.prog 35 #[.pointer (some ⟨p, 0, none⟩)] w fun e w' => e = .returned (.tuple #[.int .i64 c.p.rule, .int .i64 c.p.place, .bool true]) ∧ Below w.heap.size w w' := by
  have HM := Lib.hid (made_any p m w hs.c1 hs.blk.lt)
  have HL := Lib.hid (slast_some p m v cs c w hs)
  have hp := hs.blk.lt
  clear hs
  go_enter Try.func35, Try.ntmps35
  go_wp2_with (first
    | (go_at_call 21; refine HM.out.mono ?_; rintro e w1 ⟨rfl, rfl⟩)
    | (go_at_call 40; refine HL.out.mono ?_; rintro e w1 ⟨rfl, hb1⟩))
  go_quiet (fail)
  go_wp2
  go_ret3
  exact ⟨rfl, ext_trans (hb1.trans (((ext_refl w1).alloc (Nat.le_refl _) _).mono hb1.size)) (drew_ext ⟨_, rfl⟩)⟩

set_option maxRecDepth 100000 in
set_option maxHeartbeats 800000 in
theorem sread_absent (p m : Nat) (v : Value) (cs : List PrC) (r pl lv : Int) (w : World) (hs : SdC w p v m cs) (hfc : (prs cs).find? (isP r pl) = none) :
    Calls Try.prog 19 #[.pointer (some ⟨p, 0, none⟩), .int .i64 r, .int .i64 pl, .int .i64 lv] w fun e w' => e = .returned (.tuple #[.agg #[.int .i64 0, .int .i64 0, .slice none 0 0], .int .i64 1]) ∧ Below w.heap.size w w' := by
  have hb1 := (ext_refl w).alloc (Nat.le_refl _) (.cells #[.int .i64 0, .int .i64 0, .slice none 0 0] 42)
  have h1 := hs.c1
  have hp := hs.blk.lt
  have HM := Lib.hid (made_any p m _ (hs.ext hb1).c1 (hs.ext hb1).blk.lt)
  have hfc' : cs.find? (fun c => isP r pl c.p) = none := by
    rw [List.find?_eq_none] at hfc ⊢
    intro c hc
    exact hfc c.p (List.mem_map.2 ⟨c, hc, rfl⟩)
  have hz : ∀ w, (zeroValue 66).run Try.prog w = .ok (.agg #[.bool false, .int .i64 0, .int .i64 0, .slice none 0 0]) w := fun _ => by kernel_rfl
  have HL := run_look Try.underlying52 pair_key (hs.ext hb1).map hz (r, pl) true
  rw [getIn_ent, hfc'] at HL
  unfold enc2 at HL
  simp only [Option.map_none, Option.getD_none, Option.isSome_none, if_true] at HL
  clear hs hfc hfc'
  go_enter Try.func19, Try.ntmps19
  go_wp2_with (first
    | (go_at_call 21; refine HM.out.mono ?_; rintro e w1 ⟨rfl, rfl⟩))
  refine bodyPost_ret (v := .tuple #[.agg #[.int .i64 0, .int .i64 0, .slice none 0 0], .int .i64 1]) (by simp [results, Try.results19, go_sem]) rfl ⟨rfl, ?_⟩
  exact hb1.alloc hb1.size _

theorem find_prs (r pl : Int) (cs : List PrC) (x : Pr) (h : (prs cs).find? (isP r pl) = some x) : ∃ c, cs.find? (fun c => isP r pl c.p) = some c ∧ c.p = x ∧ c ∈ cs := by
  unfold prs at h
  rw [List.find?_map] at h
  obtain ⟨c, h1, h2⟩ := Option.map_eq_some_iff.1 h
  exact ⟨c, h1, h2, List.mem_of_find?_eq_some h1⟩

set_option maxRecDepth 100000 in
set_option maxHeartbeats 800000 in
theorem sread_fails (p m : Nat) (v : Value) (cs : List PrC) (x : Pr) (r pl lv : Int) (w : World) (hs : SdC w p v m cs) (hfc : (prs cs).find? (isP r pl) = some x) (hg : givesB x lv = false) :
    Calls Try.prog 19 #[.pointer (some ⟨p, 0, none⟩), .int .i64 r, .int .i64 pl, .int .i64 lv] w fun e w' => e = .returned (.tuple #[.agg #[.int .i64 0, .int .i64 0, .slice none 0 0], .int .i64 2]) ∧ Below w.heap.size w w' := by
  have hb1 := (ext_refl w).alloc (Nat.le_refl _) (.cells #[.int .i64 0, .int .i64 0, .slice none 0 0] 42)
  have h1 := hs.c1
  have hp := hs.blk.lt
  have HM := Lib.hid (made_any p m _ (hs.ext hb1).c1 (hs.ext hb1).blk.lt)
  obtain ⟨c, hfc', rfl, hmem⟩ := find_prs r pl cs x hfc
  obtain ⟨At, ct, hct⟩ := (hs.trees c hmem).form
  have hz : ∀ w, (zeroValue 66).run Try.prog w = .ok (.agg #[.bool false, .int .i64 0, .int .i64 0, .slice none 0 0]) w := fun _ => by kernel_rfl
  have HL := run_look Try.underlying52 pair_key (hs.ext hb1).map hz (r, pl) true
  rw [getIn_ent, hfc'] at HL
  unfold enc2 PrC.val at HL
  simp only [Option.map_some, Option.getD_some, Option.isSome_some, if_true, hct] at HL
  have HG := Lib.hid (fun W => gives_any c.p lv (.slice At c.p.tree.length ct) W)
  rw [hg] at HG
  clear hs hfc hfc' hct hg
  go_enter Try.func19, Try.ntmps19
  go_wp2_with (first
    | (go_at_call 21; refine HM.out.mono ?_; rintro e w1 ⟨rfl, rfl⟩)
    | (go_at_call 38; refine (HG.out _).mono ?_; rintro e Y ⟨rfl, hbY⟩
       have hB := ((Blk.new w 42 #[.int .i64 0, .int .i64 0, .slice none 0 0]).ext ((ext_refl _).alloc (Nat.le_refl _) (.cells #[.bool c.p.has, .int .i64 c.p.end_, .int .i64 c.p.level, .slice At c.p.tree.length ct] 66))).ext hbY
       have k0 := hB.cell 0
       have k1 := hB.cell 1
       have k2 := hB.cell 2
       have f0 := hB.frozen 0
       have f1 := hB.frozen 1
       have f2 := hB.frozen 2
       have kl := hB.lt
       have HY := Lib.hid (ext_trans (hb1.alloc hb1.size _) hbY)
       clear hB hbY))
  refine bodyPost_ret (v := .tuple #[.agg #[.int .i64 0, .int .i64 0, .slice none 0 0], .int .i64 2]) (by simp [results, Try.results19, go_sem, k0, k1, k2, kl]) rfl ⟨rfl, ?_⟩
  exact ((HY.out.setCell (p := ⟨w.heap.size, 0, none⟩) (Nat.le_refl _) _).setCell (p := ⟨w.heap.size, 1, none⟩) (Nat.le_refl _) _).setCell (p := ⟨w.heap.size, 2, none⟩) (Nat.le_refl _) _

set_option maxRecDepth 100000 in
set_option maxHeartbeats 800000 in
theorem sread_gives (p m : Nat) (v : Value) (cs : List PrC) (x : Pr) (r pl lv : Int) (w : World) (hs : SdC w p v m cs) (hfc : (prs cs).find? (isP r pl) = some x) (hg : givesB x lv = true) (hn : x.tree.length ≤ 1000000) :
    Calls Try.prog 19 #[.pointer (some ⟨p, 0, none⟩), .int .i64 r, .int .i64 pl, .int .i64 lv] w fun e w' => ∃ A c, e = .returned (.tuple #[.agg #[.int .i64 x.end_, .int .i64 x.level, .slice A x.tree.length c], .int .i64 3]) ∧
      RowT w' (.slice A x.tree.length c) x.tree ∧ (∀ k, (Value.slice A x.tree.length c).ownBlock = some k → w.heap.size ≤ k) ∧ Below w.heap.size w w' := by
  have hb1 := (ext_refl w).alloc (Nat.le_refl _) (.cells #[.int .i64 0, .int .i64 0, .slice none 0 0] 42)
  have h1 := hs.c1
  have hp := hs.blk.lt
  have HM := Lib.hid (made_any p m _ (hs.ext hb1).c1 (hs.ext hb1).blk.lt)
  obtain ⟨c, hfc', rfl, hmem⟩ := find_prs r pl cs x hfc
  have htr := hs.trees c hmem
  obtain ⟨At, ct, hct⟩ := htr.form
  have hz : ∀ w, (zeroValue 66).run Try.prog w = .ok (.agg #[.bool false, .int .i64 0, .int .i64 0, .slice none 0 0]) w := fun _ => by kernel_rfl
  have HL := run_look Try.underlying52 pair_key (hs.ext hb1).map hz (r, pl) true
  rw [getIn_ent, hfc'] at HL
  unfold enc2 PrC.val at HL
  rw [hct] at htr
  simp only [Option.map_some, Option.getD_some, Option.isSome_some, if_true, hct] at HL
  have HG := Lib.hid (fun W => gives_any c.p lv (.slice At c.p.tree.length ct) W)
  rw [hg] at HG
  have HC := Lib.hid (fun W (hb : Below w.heap.size w W) => copied_any c.p.end_ c.p.level (.slice At c.p.tree.length ct) c.p.tree W ((htr.keep (S := fun _ => False) (Upd.of_ext hb) (fun _ _ h => h)).twgs) hn)
  clear hs hfc hfc' hct hg htr
  go_enter Try.func19, Try.ntmps19
  go_wp2_with (first
    | (go_at_call 21; refine HM.out.mono ?_; rintro e w1 ⟨rfl, rfl⟩)
    | (go_at_call 38; refine (HG.out _).mono ?_; rintro e Y ⟨rfl, hbY⟩
       have hB := ((Blk.new w 42 #[.int .i64 0, .int .i64 0, .slice none 0 0]).ext ((ext_refl _).alloc (Nat.le_refl _) (.cells #[.bool c.p.has, .int .i64 c.p.end_, .int .i64 c.p.level, .slice At c.p.tree.length ct] 66))).ext hbY
       have hB2 := (Blk.at_ (w.alloc (.cells #[.int .i64 0, .int .i64 0, .slice none 0 0] 42)) 66 #[.bool c.p.has, .int .i64 c.p.end_, .int .i64 c.p.level, .slice At c.p.tree.length ct] (g := w.heap.size + 1) (by simp)).ext hbY
       have k0 := hB2.cell 1
       have k1 := hB2.cell 2
       have k2 := hB2.cell 3
       have kl := hB2.lt
       have HY := Lib.hid (And.intro (ext_trans (hb1.alloc hb1.size _) hbY) hB)
       clear hB hbY hB2)
    | (go_at_call 27; refine (HC.out _ HY.out.1).mono ?_; rintro e Z ⟨u, rfl, hu, hun, hbZ⟩
       obtain ⟨Au, cu, rfl⟩ := hu.form
       have hB := HY.out.2.ext hbZ
       have k0 := hB.cell 0
       have k1 := hB.cell 1
       have k2 := hB.cell 2
       have f0 := hB.frozen 0
       have f1 := hB.frozen 1
       have f2 := hB.frozen 2
       have kl := hB.lt
       have HZ := Lib.hid (And.intro (ext_trans HY.out.1 hbZ) (And.intro hu hun))
       clear hu hun hbZ hB))
  refine bodyPost_ret (v := .tuple #[.agg #[.int .i64 c.p.end_, .int .i64 c.p.level, .slice Au c.p.tree.length cu], .int .i64 3]) (by simp [results, Try.results19, go_sem, k0, k1, k2, kl]) rfl ⟨Au, cu, rfl, ?_, ?_, ?_⟩
  all_goals
    obtain ⟨hbZ, hu, hun⟩ := HZ.out
    have hwY := HY.out.1.size
    have hqY := HY.out.2.lt
    have hU := (((Upd.refl (fun k => k = w.heap.size) Z).setCell (p := ⟨w.heap.size, 0, none⟩) (fun _ => rfl) (.int .i64 c.p.end_)).setCell (p := ⟨w.heap.size, 1, none⟩) (fun _ => rfl) (.int .i64 c.p.level)).setCell (p := ⟨w.heap.size, 2, none⟩) (fun _ => rfl) (.slice Au c.p.tree.length cu)
  · exact hu.keep hU (fun k hk h => by have := hun k hk; omega)
  · intro k hk
    have := hun k hk
    omega
  · exact hbZ.trans (hU.below hbZ.size (fun k hk h => by omega))

set_option maxRecDepth 100000 in
set_option maxHeartbeats 1600000 in
theorem scopy_any (p m : Nat) (v : Value) (cs : List PrC) (w : World) (hs : SdC w p v m cs) (hn : cs.length ≤ 1000000) :
    Calls Try.prog 15 #[.pointer (some ⟨p, 0, none⟩)] w fun e w' => ∃ q u o, e = .returned (.pointer (some ⟨q, 0, none⟩)) ∧ SdC w' q u o cs ∧ w.heap.size ≤ q ∧ w.heap.size ≤ o ∧ (∀ k, u.ownBlock = some k → w.heap.size ≤ k) ∧ Below w.heap.size w w' := by
  have HM := Lib.hid (made_any p m w hs.c1 hs.blk.lt)
  have d0 := hs.c0
  have d1 := hs.c1
  have dl := hs.blk.lt
  obtain ⟨A, c, rfl, _⟩ := hs.form
  have HC := Lib.hid (fun W (hb : Below w.heap.size w W) => clonePr cs.length (rowP cs) _ W (Reads.of_own (hs.ext hb).row) (rowP_oneCell cs) hn)
  have HD := Lib.hid (fun W (hb : Below w.heap.size w W) => cloneM_any m (entP cs) W (hs.ext hb).map)
  have HS := Lib.hid hs
  clear hs
  go_enter Try.func15, Try.ntmps15
  go_wp2_with (first
    | (go_at_call 21; refine HM.out.mono ?_; rintro e w1 ⟨rfl, rfl⟩))
  refine AtE.start (S := fun w' => Below w.heap.size w w') 14 (by kernel_rfl) (by kernel_rfl) (by exact (ext_refl w).drew) (fun hHeld => ?_)
  refine AtE.take (i := 0) (v := ?_) rfl (by kernel_rfl) (by kernel_rfl) (by kernel_rfl) (fun _ _ _ h => h) (by decide) (Or.inl ⟨by rfl, ?_⟩) hHeld ?_
  rotate_left
  · intro wH hSw; have k1 := (hSw.cell (p := ⟨p, 0, none⟩) dl).trans d0; have k2 := (hSw.cell (p := ⟨p, 1, none⟩) dl).trans d1; go_simp; try (with_reducible rfl)
  simp only [Act.put, List.setIfInBounds_toArray, List.set_cons_zero, List.set_cons_succ]
  refine AtE.take (i := 1) (v := ?_) rfl (by kernel_rfl) (by kernel_rfl) (by kernel_rfl) (fun _ _ _ h => h) (by decide) (Or.inl ⟨by rfl, ?_⟩) hHeld ?_
  rotate_left
  · intro wH hSw; have k1 := (hSw.cell (p := ⟨p, 0, none⟩) dl).trans d0; have k2 := (hSw.cell (p := ⟨p, 1, none⟩) dl).trans d1; go_simp; try (with_reducible rfl)
  simp only [Act.put, List.setIfInBounds_toArray, List.set_cons_zero, List.set_cons_succ]
  refine AtE.take (i := 2) (v := ?_) rfl (by kernel_rfl) (by kernel_rfl) (by kernel_rfl) (fun _ _ _ h => h) (by decide) (Or.inl ⟨by rfl, ?_⟩) hHeld ?_
  rotate_left
  · intro wH hSw; have k1 := (hSw.cell (p := ⟨p, 0, none⟩) dl).trans d0; have k2 := (hSw.cell (p := ⟨p, 1, none⟩) dl).trans d1; go_simp; try (with_reducible rfl)
  simp only [Act.put, List.setIfInBounds_toArray, List.set_cons_zero, List.set_cons_succ]
  refine AtE.take (i := 3) (v := ?_) rfl (by kernel_rfl) (by kernel_rfl) (by kernel_rfl) (fun _ _ _ h => h) (by decide) (Or.inl ⟨by rfl, ?_⟩) hHeld ?_
  rotate_left
  · intro wH hSw; have k1 := (hSw.cell (p := ⟨p, 0, none⟩) dl).trans d0; have k2 := (hSw.cell (p := ⟨p, 1, none⟩) dl).trans d1; go_simp; try (with_reducible rfl)
  simp only [Act.put, List.setIfInBounds_toArray, List.set_cons_zero, List.set_cons_succ]
  refine AtE.take (i := 4) (v := ?_) rfl (by kernel_rfl) (by kernel_rfl) (by kernel_rfl) (fun _ _ _ h => h) (by decide) (Or.inl ⟨by rfl, ?_⟩) hHeld ?_
  rotate_left
  · intro wH hSw; have k1 := (hSw.cell (p := ⟨p, 0, none⟩) dl).trans d0; have k2 := (hSw.cell (p := ⟨p, 1, none⟩) dl).trans d1; go_simp; try (with_reducible rfl)
  simp only [Act.put, List.setIfInBounds_toArray, List.set_cons_zero, List.set_cons_succ]
  refine AtE.take (i := 7) (v := ?_) rfl (by kernel_rfl) (by kernel_rfl) (by kernel_rfl) (fun _ _ _ h => h) (by decide) (Or.inl ⟨by rfl, ?_⟩) hHeld ?_
  rotate_left
  · intro wH hSw; have k1 := (hSw.cell (p := ⟨p, 0, none⟩) dl).trans d0; have k2 := (hSw.cell (p := ⟨p, 1, none⟩) dl).trans d1; go_simp; try (with_reducible rfl)
  simp only [Act.put, List.setIfInBounds_toArray, List.set_cons_zero, List.set_cons_succ]
  refine AtE.take (i := 8) (v := ?_) rfl (by kernel_rfl) (by kernel_rfl) (by kernel_rfl) (fun _ _ _ h => h) (by decide) (Or.inl ⟨by rfl, ?_⟩) hHeld ?_
  rotate_left
  · intro wH hSw; have k1 := (hSw.cell (p := ⟨p, 0, none⟩) dl).trans d0; have k2 := (hSw.cell (p := ⟨p, 1, none⟩) dl).trans d1; go_simp; try (with_reducible rfl)
  simp only [Act.put, List.setIfInBounds_toArray, List.set_cons_zero, List.set_cons_succ]
  refine AtE.take (i := 9) (v := ?_) rfl (by kernel_rfl) (by kernel_rfl) (by kernel_rfl) (fun _ _ _ h => h) (by decide) (Or.inl ⟨by rfl, ?_⟩) hHeld ?_
  rotate_left
  · intro wH hSw; have k1 := (hSw.cell (p := ⟨p, 0, none⟩) dl).trans d0; have k2 := (hSw.cell (p := ⟨p, 1, none⟩) dl).trans d1; go_simp; try (with_reducible rfl)
  simp only [Act.put, List.setIfInBounds_toArray, List.set_cons_zero, List.set_cons_succ]
  refine AtE.take (i := 10) (v := ?_) rfl (by kernel_rfl) (by kernel_rfl) (by kernel_rfl) (fun _ _ _ h => h) (by decide) (Or.inl ⟨by rfl, ?_⟩) hHeld ?_
  rotate_left
  · intro wH hSw; have k1 := (hSw.cell (p := ⟨p, 0, none⟩) dl).trans d0; have k2 := (hSw.cell (p := ⟨p, 1, none⟩) dl).trans d1; go_simp; try (with_reducible rfl)
  simp only [Act.put, List.setIfInBounds_toArray, List.set_cons_zero, List.set_cons_succ]
  refine AtE.one (i := 5) rfl (by kernel_rfl) (fun K hK => ?_)
  go_simp
  refine (HC.out _ hHeld).mono ?_
  rintro e Y ⟨u, rfl, hu, hun, hbY⟩
  obtain ⟨Au, cu, rfl⟩ := ownsRow_form hu
  have HU := Lib.hid (And.intro hu (And.intro hun (And.intro hHeld.size hHeld)))
  refine hK.out _ _ (fun _ => ext_trans hHeld hbY) (fun hHeld' => ?_)
  clear hHeld hu hun hbY
  have hHeld := hHeld' (by decide)
  clear hK K hHeld'
  refine AtE.take (i := 6) (v := ?_) rfl (by kernel_rfl) (by kernel_rfl) (by kernel_rfl) (fun _ _ _ h => h) (by decide) (Or.inl ⟨by rfl, ?_⟩) hHeld ?_
  rotate_left
  · intro wH hSw; have k1 := (hSw.cell (p := ⟨p, 0, none⟩) dl).trans d0; have k2 := (hSw.cell (p := ⟨p, 1, none⟩) dl).trans d1; go_simp; try (with_reducible rfl)
  simp only [Act.put, List.setIfInBounds_toArray, List.set_cons_zero, List.set_cons_succ]
  refine AtE.one (i := 11) rfl (by kernel_rfl) (fun K hK => ?_)
  go_simp
  refine (HD.out _ hHeld).mono ?_
  rintro e Z ⟨rfl, hm, hbZ, hzZ⟩
  have HV := Lib.hid (And.intro hm (And.intro (show Below Y.heap.size Y Z from hbZ) (And.intro hHeld.size hzZ)))
  refine hK.out _ _ (fun _ => ext_trans hHeld hbZ) (fun hHeld' => ?_)
  clear hHeld hm hbZ hzZ
  have hHeld := hHeld' (by decide)
  clear hK K hHeld'
  refine AtE.take (i := 12) (v := ?_) rfl (by kernel_rfl) (by kernel_rfl) (by kernel_rfl) (fun _ _ _ h => h) (by decide) (Or.inl ⟨by rfl, ?_⟩) hHeld ?_
  rotate_left
  · intro wH hSw; have k1 := (hSw.cell (p := ⟨p, 0, none⟩) dl).trans d0; have k2 := (hSw.cell (p := ⟨p, 1, none⟩) dl).trans d1; go_simp; try (with_reducible rfl)
  simp only [Act.put, List.setIfInBounds_toArray, List.set_cons_zero, List.set_cons_succ]
  refine AtE.one (i := 13) rfl (by kernel_rfl) (fun K hK => ?_)
  go_simp
  refine hK.out _ _ (fun _ => ext_trans hHeld ((ext_refl _).alloc (Nat.le_refl _) _)) (fun hHeld' => ?_)
  have hHeld := hHeld' (by decide)
  clear hK K hHeld'
  refine AtE.one (i := 14) rfl (by kernel_rfl) (fun K hK => ?_)
  go_simp
  refine hK.out _ _ (fun h => absurd rfl h) (fun _ => ?_)
  clear hK K
  refine AtE.done (by kernel_rfl) ?_
  go_wp2
  go_ret
  obtain ⟨hu, hun, hz1, hb1⟩ := HU.out
  obtain ⟨hm, hbZ, hz2, hz3⟩ := HV.out
  have hbV := (ext_refl Z).alloc (Nat.le_refl _) (.cells #[.slice Au cs.length cu, .map (some Y.heap.size)] 57)
  have hbYV := ext_trans hbZ hbV
  refine ⟨Z.heap.size, .slice Au cs.length cu, Y.heap.size, rfl, ⟨Blk.new _ _ _, ownsRow_keep hu (Upd.of_ext (S := fun _ => False) hbYV) (fun _ _ h => h), hm.ext hbV, ?_, HS.out.apart⟩, by omega, by omega, fun k hk => ?_, hHeld⟩
  · intro c hc
    exact ((HS.out.ext hHeld).trees c hc)
  · have := hun k hk
    simpa using this
end Go.Proofs.Ytchmlhceidociaa
