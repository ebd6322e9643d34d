/- The document's stack: leaving. -/
import Derived.Test.YtjmidomcgaijjaaRefT
namespace Go.Proofs.Ytjmidomcgaijjaa
set_option linter.unusedVariables false
set_option linter.unusedSimpArgs false
open Go.RowKit

theorem RefC.pop {w W : World} {q g n cap : Nat} {cs : List FrR} {c : FrR} (h : RefC w q (.slice (some ⟨g, 0, none⟩) n cap) (cs ++ [c])) (hu : Upd (fun k => k = q) w W) (hb : Blk W q 53 #[.slice (some ⟨g, 0, none⟩) cs.length cap]) :
    RowI W c.tv c.f.touched ∧ RefC W q (.slice (some ⟨g, 0, none⟩) cs.length cap) cs ∧ Step (RFoot q (.slice (some ⟨g, 0, none⟩) n cap) (cs ++ [c])) (RFoot q (.slice (some ⟨g, 0, none⟩) cs.length cap) cs) w W := by
  have hk : ∀ {l : List Int} {x : Value}, RowI w x l → RowI W x l := fun hx => hx.keep hu (fun m hm e => by subst e; exact hx.ne h.blk (by decide) hm)
  refine ⟨hk (h.rows c (by simp)).1, ⟨hb, ?_, fun d hd => ?_⟩, hu.mono (fun k _ e => .inl e), fun k hk => ?_⟩
  · obtain ⟨hlen, ⟨h0, _⟩ | ⟨g', cap', cur, e, _, hg, h1, h2, h3, h4⟩⟩ := h.row
    · cases h0
    · injection e with e1 e2 e3
      injection e1 with e1
      injection e1 with e1 _ _
      subst e1 e3
      have hgq : g ≠ q := fun e => Blk.ne_ (t := 69) hg h.blk (by decide) e
      refine ⟨rowR_length cs, .inr ⟨g, cap, cur, rfl, Nat.zero_le _, (hu.block g (lt_of_some hg) hgq).trans hg, by simp at h1; omega, h2, h3, ?_⟩⟩
      rw [rowR_snoc, List.length_append, List.length_singleton] at h4
      have h5 := congrArg (List.take (cs.length * 5)) h4
      rw [List.take_take, Nat.min_eq_left (by omega), List.take_left' (rowR_length cs)] at h5
      exact h5
  · have hm' : d ∈ cs ++ [c] := List.mem_append_left _ hd
    exact ⟨hk (h.rows d hm').1, hk (h.rows d hm').2⟩
  · rcases hk with h | h | ⟨d, hd, h⟩
    · exact .inl (.inl h)
    · exact .inl (.inr (.inl h))
    · exact .inl (.inr (.inr ⟨d, List.mem_append_left _ hd, h⟩))

set_option maxRecDepth 100000 in
set_option maxHeartbeats 1600000 in
theorem leaveR_none (q : Nat) (v : Value) (w : World) (h : RefC w q v []) :
    Calls Try.prog 28 #[.pointer (some ⟨q, 0, none⟩)] w fun e w' => e = .returned (.tuple #[.agg #[.int .i64 0, .int .i64 0, .slice none 0 0, .slice none 0 0, .bool false], .int .i64 5]) ∧ Below w.heap.size w w' := by
  have c0 := h.c0
  have cl := h.blk.lt
  obtain ⟨A, c, rfl, _⟩ := h.form
  have c0' : w.cell? ⟨q, 0, none⟩ = some (.slice A 0 c) := c0
  clear h c0
  go_enter Try.func28, Try.ntmps28
  go_wp2
  refine bodyPost_ret (v := .tuple #[.agg #[.int .i64 0, .int .i64 0, .slice none 0 0, .slice none 0 0, .bool false], .int .i64 5]) (by simp [results, Try.results28, go_sem]) rfl ⟨rfl, ?_⟩
  exact (ext_refl w).alloc (Nat.le_refl _) _

set_option maxRecDepth 100000 in
set_option maxHeartbeats 1600000 in
theorem leaveR_some (q : Nat) (v : Value) (cs : List FrR) (c : FrR) (w : World) (h : RefC w q v (cs ++ [c])) :
    Calls Try.prog 28 #[.pointer (some ⟨q, 0, none⟩)] w fun e w' => e = .returned (.tuple #[.agg #[.int .i64 c.f.rule, .int .i64 c.f.place, c.tv, c.iv, .bool c.f.tainted], .int .i64 0]) ∧
      RowI w' c.tv c.f.touched ∧ ∃ v', RefC w' q v' cs ∧ Step (RFoot q v (cs ++ [c])) (RFoot q v' cs) w w' := by
  have c0 := h.c0
  have cl := h.blk.lt
  have cf := h.blk.frozen 0
  have HR := Lib.hid h
  obtain ⟨A, cc, rfl, hc, hm, _, hcells⟩ := h.form
  unfold maxLen at hm
  obtain ⟨g, rfl, hg, _, hcell⟩ := hcells (by simp)
  obtain ⟨g0, g1, g2, g3, g4⟩ := hcell cs.length (by simp)
  have hl : (cs ++ [c]).length = cs.length + 1 := by simp
  have hx : (cs ++ [c])[cs.length]'(by simp) = c := by simp
  rw [hx] at g0 g1 g2 g3 g4
  rw [hl] at c0 hc
  have hb0 := (ext_refl w).alloc (Nat.le_refl _) (.cells #[.int .i64 0, .int .i64 0, .slice none 0 0, .slice none 0 0, .bool false] 69)
  have HB0 := Lib.hid hb0
  obtain ⟨At, ct, ht⟩ := ownsRow_form (h.rows c (by simp)).1.1
  obtain ⟨Ai, ci, hi⟩ := ownsRow_form (h.rows c (by simp)).2.1
  rw [ht] at g2
  rw [hi] at g3
  have HTI := Lib.hid (And.intro ht hi)
  have hw64 : wrap64 (cs.length : Int) = (cs.length : Int) := IntWalk.wrap64_in _ (by omega)
  have hwr : IntKind.i64.wrap (cs.length : Int) = (cs.length : Int) := by rw [IntKind.wrap_i64]; omega
  have hlt : (cs.length : Int) < (cs.length : Int) + 1 := by omega
  have hcl : cs.length ≤ cc := by omega
  clear h hcells hcell hl hx ht hi
  go_enter Try.func28, Try.ntmps28
  have hpos : ((cs.length : Int) + 1 == 0) = false := by simp; omega
  go_wp2
  have z0 := (hb0.cell (p := ⟨q, 0, none⟩) cl).trans c0
  have y0 := (hb0.cell (p := ⟨g, cs.length * 5, none⟩) hg).trans g0
  have y1 := (hb0.cell (p := ⟨g, cs.length * 5 + 1, none⟩) hg).trans g1
  have y2 := (hb0.cell (p := ⟨g, cs.length * 5 + 2, none⟩) hg).trans g2
  have y3 := (hb0.cell (p := ⟨g, cs.length * 5 + 3, none⟩) hg).trans g3
  have y4 := (hb0.cell (p := ⟨g, cs.length * 5 + 4, none⟩) hg).trans g4
  have hr0 : Blk (w.alloc (.cells #[.int .i64 0, .int .i64 0, .slice none 0 0, .slice none 0 0, .bool false] 69)) w.heap.size _ _ := Blk.new w _ _
  have hq0 := (HR.out.ext hb0).blk
  generalize hw0 : w.alloc (.cells #[.int .i64 0, .int .i64 0, .slice none 0 0, .slice none 0 0, .bool false] 69) = w0 at *
  refine AtE.start (S := fun w' => w'.cell? ⟨q, 0, none⟩ = some (.slice (some ⟨g, 0, none⟩) (cs.length + 1) cc) ∧ w'.cell? ⟨g, cs.length * 5, none⟩ = some (.int .i64 c.f.rule) ∧ w'.cell? ⟨g, cs.length * 5 + 1, none⟩ = some (.int .i64 c.f.place) ∧ w'.cell? ⟨g, cs.length * 5 + 2, none⟩ = some (.slice At c.f.touched.length ct) ∧ w'.cell? ⟨g, cs.length * 5 + 3, none⟩ = some (.slice Ai c.f.involved.length ci) ∧ w'.cell? ⟨g, cs.length * 5 + 4, none⟩ = some (.bool c.f.tainted)) 13 (by kernel_rfl) (by kernel_rfl) (by exact ⟨by simpa using z0, by simpa using y0, by simpa using y1, by simpa using y2, by simpa using y3, by simpa using y4⟩) (fun hHeld => ?_)
  refine AtE.take (i := 0) (v := ?_) rfl (by kernel_rfl) (by kernel_rfl) (by kernel_rfl) (fun _ _ _ h => h) (by decide) (Or.inl ⟨by rfl, ?_⟩) hHeld ?_
  rotate_left
  · intro w hSw; go_simp; try (with_reducible rfl)
  simp only [Act.put, List.setIfInBounds_toArray, List.set_cons_zero, List.set_cons_succ]
  refine AtE.take (i := 1) (v := ?_) rfl (by kernel_rfl) (by kernel_rfl) (by kernel_rfl) (fun _ _ _ h => h) (by decide) (Or.inl ⟨by rfl, ?_⟩) hHeld ?_
  rotate_left
  · intro w hSw; go_simp; try (with_reducible rfl)
  simp only [Act.put, List.setIfInBounds_toArray, List.set_cons_zero, List.set_cons_succ]
  refine AtE.take (i := 2) (v := ?_) rfl (by kernel_rfl) (by kernel_rfl) (by kernel_rfl) (fun _ _ _ h => h) (by decide) (Or.inl ⟨by rfl, ?_⟩) hHeld ?_
  rotate_left
  · intro w hSw; go_simp; try (with_reducible rfl)
  simp only [Act.put, List.setIfInBounds_toArray, List.set_cons_zero, List.set_cons_succ]
  refine AtE.take (i := 3) (v := ?_) rfl (by kernel_rfl) (by kernel_rfl) (by kernel_rfl) (fun _ _ _ h => h) (by decide) (Or.inl ⟨by rfl, ?_⟩) hHeld ?_
  rotate_left
  · intro w hSw; go_simp; try (with_reducible rfl)
  simp only [Act.put, List.setIfInBounds_toArray, List.set_cons_zero, List.set_cons_succ]
  refine AtE.take (i := 4) (v := ?_) rfl (by kernel_rfl) (by kernel_rfl) (by kernel_rfl) (fun _ _ _ h => h) (by decide) (Or.inl ⟨by rfl, ?_⟩) hHeld ?_
  rotate_left
  · intro w hSw; go_simp; try (with_reducible rfl)
  simp only [Act.put, List.setIfInBounds_toArray, List.set_cons_zero, List.set_cons_succ]
  refine AtE.take (i := 5) (v := ?_) rfl (by kernel_rfl) (by kernel_rfl) (by kernel_rfl) (fun _ _ _ h => h) (by decide) (Or.inl ⟨by rfl, ?_⟩) hHeld ?_
  rotate_left
  · intro w hSw; go_simp; try (with_reducible rfl)
  simp only [Act.put, List.setIfInBounds_toArray, List.set_cons_zero, List.set_cons_succ]
  refine AtE.take (i := 6) (v := ?_) rfl (by kernel_rfl) (by kernel_rfl) (by kernel_rfl) (fun _ _ _ h => h) (by decide) (Or.inl ⟨by rfl, ?_⟩) hHeld ?_
  rotate_left
  · intro w hSw; go_simp; try (with_reducible rfl)
  simp only [Act.put, List.setIfInBounds_toArray, List.set_cons_zero, List.set_cons_succ]
  refine AtE.take (i := 7) (v := ?_) rfl (by kernel_rfl) (by kernel_rfl) (by kernel_rfl) (fun _ _ _ h => h) (by decide) (Or.inl ⟨by rfl, ?_⟩) hHeld ?_
  rotate_left
  · intro w hSw; go_simp; try (with_reducible rfl)
  simp only [Act.put, List.setIfInBounds_toArray, List.set_cons_zero, List.set_cons_succ]
  refine AtE.take (i := 8) (v := ?_) rfl (by kernel_rfl) (by kernel_rfl) (by kernel_rfl) (fun _ _ _ h => h) (by decide) (Or.inl ⟨by rfl, ?_⟩) hHeld ?_
  rotate_left
  · intro w hSw; go_simp; try (with_reducible rfl)
  simp only [Act.put, List.setIfInBounds_toArray, List.set_cons_zero, List.set_cons_succ]
  refine AtE.take (i := 9) (v := ?_) rfl (by kernel_rfl) (by kernel_rfl) (by kernel_rfl) (fun _ _ _ h => h) (by decide) (Or.inl ⟨by rfl, ?_⟩) hHeld ?_
  rotate_left
  · intro w hSw; go_simp; try (with_reducible rfl)
  simp only [Act.put, List.setIfInBounds_toArray, List.set_cons_zero, List.set_cons_succ]
  refine AtE.take (i := 10) (v := ?_) rfl (by kernel_rfl) (by kernel_rfl) (by kernel_rfl) (fun _ _ _ h => h) (by decide) (Or.inl ⟨by rfl, ?_⟩) hHeld ?_
  rotate_left
  · intro w hSw; go_simp; try (with_reducible rfl)
  simp only [Act.put, List.setIfInBounds_toArray, List.set_cons_zero, List.set_cons_succ]
  refine AtE.take (i := 11) (v := ?_) rfl (by kernel_rfl) (by kernel_rfl) (by kernel_rfl) (fun _ _ _ h => h) (by decide) (Or.inl ⟨by rfl, ?_⟩) hHeld ?_
  rotate_left
  · intro w hSw; go_simp; try (with_reducible rfl)
  simp only [Act.put, List.setIfInBounds_toArray, List.set_cons_zero, List.set_cons_succ]
  refine AtE.one (i := 12) rfl (by kernel_rfl) (fun K hK => ?_)
  go_simp
  have hb1 := ((ext_refl w0).alloc (Nat.le_refl _) (.cells #[.int .i64 0, .int .i64 0, .slice none 0 0, .slice none 0 0, .bool false] 69)).drew
  have hr1 : Blk (w0.alloc (.cells #[.int .i64 0, .int .i64 0, .slice none 0 0, .slice none 0 0, .bool false] 69)).drew w0.heap.size _ _ := (Blk.new w0 _ _).drew
  generalize hw1 : (w0.alloc (.cells #[.int .i64 0, .int .i64 0, .slice none 0 0, .slice none 0 0, .bool false] 69)).drew = w1 at *
  have x0 := (hb1.cell (p := ⟨q, 0, none⟩) hq0.lt).trans z0
  have x1 := (hb1.cell (p := ⟨g, cs.length * 5, none⟩) (Nat.lt_of_lt_of_le hg hb0.size)).trans y0
  have x2 := (hb1.cell (p := ⟨g, cs.length * 5 + 1, none⟩) (Nat.lt_of_lt_of_le hg hb0.size)).trans y1
  have x3 := (hb1.cell (p := ⟨g, cs.length * 5 + 2, none⟩) (Nat.lt_of_lt_of_le hg hb0.size)).trans y2
  have x4 := (hb1.cell (p := ⟨g, cs.length * 5 + 3, none⟩) (Nat.lt_of_lt_of_le hg hb0.size)).trans y3
  have x5 := (hb1.cell (p := ⟨g, cs.length * 5 + 4, none⟩) (Nat.lt_of_lt_of_le hg hb0.size)).trans y4
  refine hK.out _ _ (fun _ => ⟨x0, x1, x2, x3, x4, x5⟩) (fun hHeld' => ?_)
  have hHeld := hHeld' (by decide)
  clear hK K hHeld' x0 x1 x2 x3 x4 x5 z0 y0 y1 y2 y3 y4
  have r0 := hr1.cell 0
  have r1 := hr1.cell 1
  have r2 := hr1.cell 2
  have r3 := hr1.cell 3
  have r4 := hr1.cell 4
  have f0 := hr1.frozen 0
  have f1 := hr1.frozen 1
  have f2 := hr1.frozen 2
  have f3 := hr1.frozen 3
  have f4 := hr1.frozen 4
  have rl := hr1.lt
  refine AtE.one (i := 13) rfl (by kernel_rfl) (fun K hK => ?_)
  go_simp
  refine hK.out _ _ (fun h => absurd rfl h) (fun _ => ?_)
  clear hK K
  refine AtE.done (by kernel_rfl) ?_
  have hB5 := (((((hr1.set_ 0 (.int .i64 c.f.rule)).set_ 1 (.int .i64 c.f.place)).set_ 2 (.slice At c.f.touched.length ct)).set_ 3 (.slice Ai c.f.involved.length ci)).set_ 4 (.bool c.f.tainted))
  have hU5 := (((((setCell_upd w1 (w0.heap.size) 0 (.int .i64 c.f.rule)).setCell (p := ⟨w0.heap.size, 1, none⟩) (fun _ => rfl) (.int .i64 c.f.place)).setCell (p := ⟨w0.heap.size, 2, none⟩) (fun _ => rfl) (.slice At c.f.touched.length ct)).setCell (p := ⟨w0.heap.size, 3, none⟩) (fun _ => rfl) (.slice Ai c.f.involved.length ci)).setCell (p := ⟨w0.heap.size, 4, none⟩) (fun _ => rfl) (.bool c.f.tainted))
  clear r0 r1 r2 r3 r4 f0 f1 f2 f3 f4 rl hHeld
  generalize hw5 : (((((w1.setCell ⟨w0.heap.size, 0, none⟩ (.int .i64 c.f.rule)).setCell ⟨w0.heap.size, 1, none⟩ (.int .i64 c.f.place)).setCell ⟨w0.heap.size, 2, none⟩ (.slice At c.f.touched.length ct)).setCell ⟨w0.heap.size, 3, none⟩ (.slice Ai c.f.involved.length ci)).setCell ⟨w0.heap.size, 4, none⟩ (.bool c.f.tainted)) = w5 at *
  have hUw : Upd (fun k => k = w0.heap.size) w1 w5 := hU5
  have hq1 := hq0.ext hb1
  have hne : w0.heap.size ≠ q := Nat.ne_of_gt hq0.lt
  have hq5 := hq1.keep hUw (fun e => hne e.symm)
  have hr5 : Blk w5 w.heap.size _ _ := (hr0.ext hb1).keep hUw (fun e => by have := hr0.lt; omega)
  have z0 := hq5.cell 0
  have zf := hq5.frozen 0
  have zl := hq5.lt
  have HB5 := Lib.hid (And.intro hB5 (And.intro hUw (And.intro hb1 (And.intro hr5 hq5))))
  have z0 : w5.cell? ⟨q, 0, none⟩ = some (.slice (some ⟨g, 0, none⟩) (cs.length + 1) cc) := by rw [z0]; simp
  clear hB5 hU5 hUw hq1 hr5 hq5 hw5 hw1 hw0 hr1 hb1 hne
  clear g0 g1 g2 g3 g4 c0 cf
  go_wp2
  refine AtE.start (S := fun w' => w'.cell? ⟨q, 0, none⟩ = some (.slice (some ⟨g, 0, none⟩) (cs.length + 1) cc)) 14 (by kernel_rfl) (by kernel_rfl) (by simpa using z0) (fun hHeld => ?_)
  refine AtE.take (i := 0) (v := ?_) rfl (by kernel_rfl) (by kernel_rfl) (by kernel_rfl) (fun _ _ _ h => h) (by decide) (Or.inl ⟨by rfl, ?_⟩) hHeld ?_
  rotate_left
  · intro w hSw; go_simp; try (with_reducible rfl)
  simp only [Act.put, List.setIfInBounds_toArray, List.set_cons_zero, List.set_cons_succ]
  refine AtE.take (i := 1) (v := ?_) rfl (by kernel_rfl) (by kernel_rfl) (by kernel_rfl) (fun _ _ _ h => h) (by decide) (Or.inl ⟨by rfl, ?_⟩) hHeld ?_
  rotate_left
  · intro w hSw; go_simp; try (with_reducible rfl)
  simp only [Act.put, List.setIfInBounds_toArray, List.set_cons_zero, List.set_cons_succ]
  refine AtE.take (i := 2) (v := ?_) rfl (by kernel_rfl) (by kernel_rfl) (by kernel_rfl) (fun _ _ _ h => h) (by decide) (Or.inl ⟨by rfl, ?_⟩) hHeld ?_
  rotate_left
  · intro w hSw; go_simp; try (with_reducible rfl)
  simp only [Act.put, List.setIfInBounds_toArray, List.set_cons_zero, List.set_cons_succ]
  refine AtE.take (i := 3) (v := ?_) rfl (by kernel_rfl) (by kernel_rfl) (by kernel_rfl) (fun _ _ _ h => h) (by decide) (Or.inl ⟨by rfl, ?_⟩) hHeld ?_
  rotate_left
  · intro w hSw; go_simp; try (with_reducible rfl)
  simp only [Act.put, List.setIfInBounds_toArray, List.set_cons_zero, List.set_cons_succ]
  refine AtE.take (i := 4) (v := ?_) rfl (by kernel_rfl) (by kernel_rfl) (by kernel_rfl) (fun _ _ _ h => h) (by decide) (Or.inl ⟨by rfl, ?_⟩) hHeld ?_
  rotate_left
  · intro w hSw; go_simp; try (with_reducible rfl)
  simp only [Act.put, List.setIfInBounds_toArray, List.set_cons_zero, List.set_cons_succ]
  refine AtE.take (i := 5) (v := ?_) rfl (by kernel_rfl) (by kernel_rfl) (by kernel_rfl) (fun _ _ _ h => h) (by decide) (Or.inl ⟨by rfl, ?_⟩) hHeld ?_
  rotate_left
  · intro w hSw; go_simp; try (with_reducible rfl)
  simp only [Act.put, List.setIfInBounds_toArray, List.set_cons_zero, List.set_cons_succ]
  refine AtE.take (i := 6) (v := ?_) rfl (by kernel_rfl) (by kernel_rfl) (by kernel_rfl) (fun _ _ _ h => h) (by decide) (Or.inl ⟨by rfl, ?_⟩) hHeld ?_
  rotate_left
  · intro w hSw; go_simp; try (with_reducible rfl)
  simp only [Act.put, List.setIfInBounds_toArray, List.set_cons_zero, List.set_cons_succ]
  refine AtE.take (i := 7) (v := ?_) rfl (by kernel_rfl) (by kernel_rfl) (by kernel_rfl) (fun _ _ _ h => h) (by decide) (Or.inl ⟨by rfl, ?_⟩) hHeld ?_
  rotate_left
  · intro w hSw; go_simp; try (with_reducible rfl)
  simp only [Act.put, List.setIfInBounds_toArray, List.set_cons_zero, List.set_cons_succ]
  refine AtE.take (i := 8) (v := ?_) rfl (by kernel_rfl) (by kernel_rfl) (by kernel_rfl) (fun _ _ _ h => h) (by decide) (Or.inl ⟨by rfl, ?_⟩) hHeld ?_
  rotate_left
  · intro w hSw; go_simp; try (with_reducible rfl)
  simp only [Act.put, List.setIfInBounds_toArray, List.set_cons_zero, List.set_cons_succ]
  refine AtE.take (i := 9) (v := ?_) rfl (by kernel_rfl) (by kernel_rfl) (by kernel_rfl) (fun _ _ _ h => h) (by decide) (Or.inl ⟨by rfl, ?_⟩) hHeld ?_
  rotate_left
  · intro w hSw; go_simp; try (with_reducible rfl)
  simp only [Act.put, List.setIfInBounds_toArray, List.set_cons_zero, List.set_cons_succ]
  refine AtE.take (i := 10) (v := ?_) rfl (by kernel_rfl) (by kernel_rfl) (by kernel_rfl) (fun _ _ _ h => h) (by decide) (Or.inl ⟨by rfl, ?_⟩) hHeld ?_
  rotate_left
  · intro w hSw; go_simp; try (with_reducible rfl)
  simp only [Act.put, List.setIfInBounds_toArray, List.set_cons_zero, List.set_cons_succ]
  refine AtE.take (i := 11) (v := ?_) rfl (by kernel_rfl) (by kernel_rfl) (by kernel_rfl) (fun _ _ _ h => h) (by decide) (Or.inl ⟨by rfl, ?_⟩) hHeld ?_
  rotate_left
  · intro w hSw; go_simp; try (with_reducible rfl)
  simp only [Act.put, List.setIfInBounds_toArray, List.set_cons_zero, List.set_cons_succ]
  refine AtE.take (i := 12) (v := ?_) rfl (by kernel_rfl) (by kernel_rfl) (by kernel_rfl) (fun _ _ _ h => h) (by decide) (Or.inl ⟨by rfl, ?_⟩) hHeld ?_
  rotate_left
  · intro w hSw; go_simp; try (with_reducible rfl)
  simp only [Act.put, List.setIfInBounds_toArray, List.set_cons_zero, List.set_cons_succ]
  refine AtE.take (i := 13) (v := ?_) rfl (by kernel_rfl) (by kernel_rfl) (by kernel_rfl) (fun _ _ _ h => h) (by decide) (Or.inl ⟨by rfl, ?_⟩) hHeld ?_
  rotate_left
  · intro w hSw; go_simp; try (with_reducible rfl)
  simp only [Act.put, List.setIfInBounds_toArray, List.set_cons_zero, List.set_cons_succ]
  refine AtE.one (i := 14) rfl (by kernel_rfl) (fun K hK => ?_)
  have zd : w5.drew.frozen? ⟨q, 0, none⟩ = false := zf
  have zz : w5.drew.cell? ⟨q, 0, none⟩ = some (.slice (some ⟨g, 0, none⟩) (cs.length + 1) cc) := z0
  go_simp
  refine hK.out _ _ (fun h => absurd rfl h) (fun _ => ?_)
  clear hK K
  refine AtE.done (by kernel_rfl) ?_
  have hU6 := (setCell_upd w5 q 0 (.slice (some ⟨g, 0, none⟩) cs.length cc)).drew
  have hne1 : w0.heap.size ≠ q := Nat.ne_of_gt hq0.lt
  have hne2 : w.heap.size ≠ q := Nat.ne_of_gt cl
  have hB6 := HB5.out.1.keep hU6 (fun e => hne1 e)
  have hr6 := HB5.out.2.2.2.1.keep hU6 (fun e => hne2 e)
  have hq6 := (HB5.out.2.2.2.2.set_ 0 (.slice (some ⟨g, 0, none⟩) cs.length cc)).drew
  clear z0 zf zl hHeld
  generalize hw6 : (w5.setCell ⟨q, 0, none⟩ (.slice (some ⟨g, 0, none⟩) cs.length cc)).drew = w6 at *
  have e0 : w6.cell? ⟨w0.heap.size, 0, none⟩ = some (.int .i64 c.f.rule) := hB6.cell 0
  have e1 : w6.cell? ⟨w0.heap.size, 1, none⟩ = some (.int .i64 c.f.place) := hB6.cell 1
  have e2 : w6.cell? ⟨w0.heap.size, 2, none⟩ = some (.slice At c.f.touched.length ct) := hB6.cell 2
  have e3 : w6.cell? ⟨w0.heap.size, 3, none⟩ = some (.slice Ai c.f.involved.length ci) := hB6.cell 3
  have e4 : w6.cell? ⟨w0.heap.size, 4, none⟩ = some (.bool c.f.tainted) := hB6.cell 4
  have s0 := hr6.cell 0
  have s1 := hr6.cell 1
  have s2 := hr6.cell 2
  have s3 := hr6.cell 3
  have s4 := hr6.cell 4
  have f0 := hr6.frozen 0
  have f1 := hr6.frozen 1
  have f2 := hr6.frozen 2
  have f3 := hr6.frozen 3
  have f4 := hr6.frozen 4
  have rl := hr6.lt
  have bl := hB6.lt
  have hB7 := (((((hr6.set_ 0 (.int .i64 c.f.rule)).set_ 1 (.int .i64 c.f.place)).set_ 2 (.slice At c.f.touched.length ct)).set_ 3 (.slice Ai c.f.involved.length ci)).set_ 4 (.bool c.f.tainted))
  have hU7 := (((((setCell_upd w6 (w.heap.size) 0 (.int .i64 c.f.rule)).setCell (p := ⟨w.heap.size, 1, none⟩) (fun _ => rfl) (.int .i64 c.f.place)).setCell (p := ⟨w.heap.size, 2, none⟩) (fun _ => rfl) (.slice At c.f.touched.length ct)).setCell (p := ⟨w.heap.size, 3, none⟩) (fun _ => rfl) (.slice Ai c.f.involved.length ci)).setCell (p := ⟨w.heap.size, 4, none⟩) (fun _ => rfl) (.bool c.f.tainted))
  have HB6 := Lib.hid (And.intro hU6 (And.intro hq6 (And.intro hU7 hB7)))
  clear hU6 hq6 hU7 hB7 hr6 hB6
  go_wp2
  refine bodyPost_ret (v := .tuple #[.agg #[.int .i64 c.f.rule, .int .i64 c.f.place, c.tv, c.iv, .bool c.f.tainted], .int .i64 0]) ?_ rfl ?_
  · have k0 := HB6.out.2.2.2.cell 0
    have k1 := HB6.out.2.2.2.cell 1
    have k2 := HB6.out.2.2.2.cell 2
    have k3 := HB6.out.2.2.2.cell 3
    have k4 := HB6.out.2.2.2.cell 4
    rw [HTI.out.1, HTI.out.2]
    simp [results, Try.results28, go_sem, k0, k1, k2, k3, k4]
  · have hz := HB0.out.size
    have hUall : Upd (fun k => k = q) w _ := ((((Upd.of_ext (S := fun k => k = q) HB0.out).trans (Upd.of_ext HB5.out.2.2.1)).trans' HB5.out.2.1 (fun i hi e => by omega)).trans HB6.out.1).trans' HB6.out.2.2.1 (fun i hi e => by omega)
    have hblk := HB6.out.2.1.keep HB6.out.2.2.1 (fun e => hne2 e.symm)
    have hp := RefC.pop HR.out hUall (by simpa using hblk)
    exact ⟨rfl, hp.1, _, hp.2.1, hp.2.2⟩
end Go.Proofs.Ytjmidomcgaijjaa
