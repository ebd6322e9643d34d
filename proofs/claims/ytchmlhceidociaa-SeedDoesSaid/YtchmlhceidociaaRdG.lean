/- The document's store: the last pair grows, ends; what is read. -/
import Derived.Test.YtchmlhceidociaaRd
namespace Go.Proofs.Ytchmlhceidociaa
set_option linter.unusedVariables false
set_option linter.unusedSimpArgs false
open Go.RowKit

set_option maxRecDepth 100000 in
set_option maxHeartbeats 800000 in
theorem rend_none (q : Nat) (v : Value) (w : World) (h : RdC w q v []) :
    Calls Try.prog 14 #[.pointer (some ⟨q, 0, none⟩)] w fun e w' => e = .returned (.int .i64 5) ∧ w = w' := by
  have h0 := h.c0
  have hp := h.blk.lt
  obtain ⟨A, c, rfl, _⟩ := h.form
  have h0' : w.cell? ⟨q, 0, none⟩ = some (.slice A 0 c) := h0
  clear h h0
  go_enter Try.func14, Try.ntmps14
  go_wp2
  go_ret
  exact ⟨rfl, rfl⟩
set_option maxRecDepth 100000 in
set_option maxHeartbeats 800000 in
theorem rend_some (q : Nat) (v : Value) (cs : List PrC) (c : PrC) (w : World) (hs : RdC w q v (cs ++ [c])) :
    Calls Try.prog 14 #[.pointer (some ⟨q, 0, none⟩)] w fun e w' => e = .returned (.int .i64 0) ∧ ∃ v', RdC w' q v' cs ∧ Step (RFoot q v (cs ++ [c])) (RFoot q v' cs) w w' := by
  have h0 := hs.c0
  have hp := hs.blk.lt
  have hf0 := hs.blk.frozen 0
  have hl : (cs ++ [c]).length = cs.length + 1 := by simp
  obtain ⟨_, h | ⟨g, cap, cur, hv, -, hg, hc, hm, hcs, htk⟩⟩ := hs.row
  · have := h.2
    simp at this
  subst hv
  rw [hl] at h0 hc
  have hgp : g ≠ q := fun e => Blk.ne_ (t := 36) hg hs.blk (by decide) e
  have HX := Lib.hid (And.intro hs (And.intro hg (And.intro hcs (And.intro htk (And.intro hgp hm)))))
  unfold maxLen at hm
  clear hs hl hg hcs htk hgp
  have hcl : (0 : Int) ≤ (cs.length : Int) := by omega
  have hcl2 : (cs.length : Int) ≤ (cap : Int) := by omega
  have hwr : IntKind.i64.wrap (cs.length : Int) = (cs.length : Int) := IntWalk.i64_in _ (by omega)
  have hne : (((cs.length + 1 : Nat) : Int) == 0) = false := by simp; omega
  go_enter Try.func14, Try.ntmps14
  go_wp2
  go_region
  all_goals
    go_wp2
    go_ret
    obtain ⟨hs, hg, hcs, htk, hgp, hm⟩ := HX.out
    have hu := (setCell_upd w q 0 (.slice (some ⟨g, 0, none⟩) cs.length cap)).drew
    refine ⟨rfl, .slice (some ⟨g, 0, none⟩) cs.length cap, ⟨Blk.drew (by simpa using hs.blk.set_ 0 (.slice (some ⟨g, 0, none⟩) cs.length cap)), ⟨rowQ_length cs, .inr ⟨g, cap, cur, rfl, Nat.zero_le _, ?_, by omega, hm, hcs, ?_⟩⟩, fun d hd => ?_⟩, ⟨hu.mono (fun k _ hk => .inl hk), fun k hk => ?_⟩⟩
    · exact (Below.heap_setCell _ _ _ _ hgp).trans hg
    · rw [rowQ_snoc] at htk
      have h2 := congrArg (List.take (cs.length * 6)) htk
      rw [List.length_append] at h2
      rw [List.take_take, Nat.min_eq_left (by simp; omega), List.take_left' (rowQ_length cs)] at h2
      exact h2
    · have ht := hs.trees d (List.mem_append_left _ hd)
      exact ht.keep hu (fun k hk e => by subst e; exact ht.ne hs.blk (by decide) hk)
    · rcases hk with rfl | hk | ⟨d, hd, hk⟩
      · exact .inl (.inl rfl)
      · exact .inl (.inr (.inl hk))
      · exact .inl (.inr (.inr ⟨d, List.mem_append_left _ hd, hk⟩))

set_option maxRecDepth 100000 in
set_option maxHeartbeats 800000 in
theorem rgrow_none (q : Nat) (v : Value) (en lv : Int) (tv : Value) (w : World) (h : RdC w q v []) :
    Calls Try.prog 12 #[.pointer (some ⟨q, 0, none⟩), .int .i64 en, .int .i64 lv, tv] w fun e w' => e = .returned (.int .i64 5) ∧ w = w' := by
  have h0 := h.c0
  have hp := h.blk.lt
  obtain ⟨A, c, rfl, _⟩ := h.form
  have h0' : w.cell? ⟨q, 0, none⟩ = some (.slice A 0 c) := h0
  clear h h0
  go_enter Try.func12, Try.ntmps12
  go_wp2
  go_ret
  exact ⟨rfl, rfl⟩
/-- the last one is another one -/
theorem RdC.setLast {w : World} {q : Nat} {v : Value} {cs : List PrC} {c d : PrC} {g cap : Nat} (h : RdC w q v (cs ++ [c])) (hv : v = .slice (some ⟨g, 0, none⟩) (cs.length + 1) cap) (ht : RowT w d.tv d.p.tree) :
    RdC ((((((w.setCell ⟨g, cs.length * 6, none⟩ (.int .i64 d.p.rule)).setCell ⟨g, cs.length * 6 + 1, none⟩ (.int .i64 d.p.place)).setCell ⟨g, cs.length * 6 + 2, none⟩ (.bool d.p.has)).setCell ⟨g, cs.length * 6 + 3, none⟩ (.int .i64 d.p.end_)).setCell ⟨g, cs.length * 6 + 4, none⟩ (.int .i64 d.p.level)).setCell ⟨g, cs.length * 6 + 5, none⟩ d.tv) q v (cs ++ [d]) ∧
    Upd (· = g) w ((((((w.setCell ⟨g, cs.length * 6, none⟩ (.int .i64 d.p.rule)).setCell ⟨g, cs.length * 6 + 1, none⟩ (.int .i64 d.p.place)).setCell ⟨g, cs.length * 6 + 2, none⟩ (.bool d.p.has)).setCell ⟨g, cs.length * 6 + 3, none⟩ (.int .i64 d.p.end_)).setCell ⟨g, cs.length * 6 + 4, none⟩ (.int .i64 d.p.level)).setCell ⟨g, cs.length * 6 + 5, none⟩ d.tv) := by
  have hl : (cs ++ [c]).length = cs.length + 1 := by simp
  have hU := (((((setCell_upd w g (cs.length * 6) (.int .i64 d.p.rule)).setCell (p := ⟨g, cs.length * 6 + 1, none⟩) (fun _ => rfl) (.int .i64 d.p.place)).setCell (p := ⟨g, cs.length * 6 + 2, none⟩) (fun _ => rfl) (.bool d.p.has)).setCell (p := ⟨g, cs.length * 6 + 3, none⟩) (fun _ => rfl) (.int .i64 d.p.end_)).setCell (p := ⟨g, cs.length * 6 + 4, none⟩) (fun _ => rfl) (.int .i64 d.p.level)).setCell (p := ⟨g, cs.length * 6 + 5, none⟩) (fun _ => rfl) d.tv
  have hg : ∃ cur, Blk w g 36 cur := own_blk h.row (by rw [hv]; rfl)
  obtain ⟨cur, hg⟩ := hg
  have hx : (rowQ (cs ++ [c])).length = cs.length * 6 + 6 := by rw [rowQ_length, hl]; omega
  have r1 := ownsRow_set h.row hv (o := cs.length * 6) (by omega) (.int .i64 d.p.rule)
  have r2 := ownsRow_set r1 hv (o := cs.length * 6 + 1) (by simp only [List.length_set]; omega) (.int .i64 d.p.place)
  have r3 := ownsRow_set r2 hv (o := cs.length * 6 + 2) (by simp only [List.length_set]; omega) (.bool d.p.has)
  have r4 := ownsRow_set r3 hv (o := cs.length * 6 + 3) (by simp only [List.length_set]; omega) (.int .i64 d.p.end_)
  have r5 := ownsRow_set r4 hv (o := cs.length * 6 + 4) (by simp only [List.length_set]; omega) (.int .i64 d.p.level)
  have r6 := ownsRow_set r5 hv (o := cs.length * 6 + 5) (by simp only [List.length_set]; omega) d.tv
  have hT : ∀ {x : Value} {ts : List Twg}, RowT w x ts → RowT _ x ts := fun hx => hx.keep hU (fun k hk e => by subst e; exact hx.ne hg (by decide) hk)
  refine ⟨⟨h.blk.keep hU (fun e => Blk.ne_ hg h.blk (by decide) e.symm), ?_, fun x hx => ?_⟩, hU⟩
  · have e : ((((((rowQ (cs ++ [c])).set (cs.length * 6) (.int .i64 d.p.rule)).set (cs.length * 6 + 1) (.int .i64 d.p.place)).set (cs.length * 6 + 2) (.bool d.p.has)).set (cs.length * 6 + 3) (.int .i64 d.p.end_)).set (cs.length * 6 + 4) (.int .i64 d.p.level)).set (cs.length * 6 + 5) d.tv = rowQ (cs ++ [d]) := by
      have hr := rowQ_length cs
      rw [rowQ_snoc, rowQ_snoc]
      rw [List.set_append_right _ _ (by omega), List.set_append_right _ _ (by omega), List.set_append_right _ _ (by omega), List.set_append_right _ _ (by omega), List.set_append_right _ _ (by omega), List.set_append_right _ _ (by omega)]
      congr 1
      rw [hr]
      simp [PrC.cellq, show cs.length * 6 + 1 - cs.length * 6 = 1 by omega, show cs.length * 6 + 2 - cs.length * 6 = 2 by omega, show cs.length * 6 + 3 - cs.length * 6 = 3 by omega, show cs.length * 6 + 4 - cs.length * 6 = 4 by omega, show cs.length * 6 + 5 - cs.length * 6 = 5 by omega]
    rw [e] at r6
    simpa using r6
  · rcases List.mem_append.1 hx with hx | hx
    · exact hT (h.trees x (List.mem_append_left _ hx))
    · obtain rfl : x = d := by simpa using hx
      exact hT ht
set_option maxRecDepth 100000 in
set_option maxHeartbeats 1600000 in
theorem rgrow_some (q : Nat) (v : Value) (cs : List PrC) (c : PrC) (en lv : Int) (tv : Value) (ts : List Twg) (w : World) (hs : RdC w q v (cs ++ [c])) (ht : Twgs w tv ts) (hn : ts.length ≤ 1000000) (P : Int → World → Prop)
    (h1 : furtherB c.p en lv = false → ∀ w', Below w.heap.size w w' → P 2 w')
    (h2 : furtherB c.p en lv = true → ∀ w' u, RdC w' q v (cs ++ [⟨{ c.p with has := true, end_ := en, level := lv, tree := ts }, u⟩]) → Step (RFoot q v (cs ++ [c])) (RFoot q v (cs ++ [⟨{ c.p with has := true, end_ := en, level := lv, tree := ts }, u⟩])) w w' → P 0 w') :
    Calls Try.prog 12 #[.pointer (some ⟨q, 0, none⟩), .int .i64 en, .int .i64 lv, tv] w (RetI P) := by
  have h0 := hs.c0
  have hp := hs.blk.lt
  have hl : (cs ++ [c]).length = cs.length + 1 := by simp
  obtain ⟨A, cap, rfl, hc, hm, -, hcells⟩ := hs.form
  obtain ⟨g, cur, rfl, hgb, hg, hcell⟩ := hcells (by simp)
  obtain ⟨g0, g1, g2, g3, g4, g5⟩ := hcell cs.length (by simp)
  have hx : (cs ++ [c])[cs.length]'(by simp) = c := by simp
  rw [hx] at g0 g1 g2 g3 g4 g5
  rw [hl] at h0 hc
  unfold maxLen at hm
  have hct := (hs.trees c (by simp)).form
  obtain ⟨Ac, cc, hct⟩ := hct
  rw [hct] at g5
  have HS := Lib.hid hs
  have HP := Lib.hid (And.intro h1 h2)
  obtain ⟨At, ct, rfl, -, -, hnil, -⟩ := ht.form
  have HT := Lib.hid ht
  obtain ⟨i0, hi, hz0, hz1, hz2⟩ := info_parts (P := Try.prog) (e := 61) (z := .agg #[.int .i64 0, .int .i64 0, .int .i64 0, .int .i64 0, .int .i64 0]) (size := 5) (bytes := 40) (by kernel_rfl)
  clear hs hcell hcells hx hl hct h1 h2 ht
  have hcl : (0 : Int) ≤ (cs.length : Int) := by omega
  have hcl2 : (cs.length : Int) < (cs.length : Int) + 1 := by omega
  have hwr : IntKind.i64.wrap (cs.length : Int) = (cs.length : Int) := IntWalk.i64_in _ (by omega)
  have hne : (((cs.length + 1 : Nat) : Int) == 0) = false := by simp; omega
  go_enter Try.func12, Try.ntmps12
  go_wp2
  refine AtE.start (S := fun w' => Below w.heap.size w w') 13 (by kernel_rfl) (by kernel_rfl) (by exact (ext_refl w).drew) (fun hHeld => ?_)
  refine AtE.take (i := 0) (v := ?_) rfl (by kernel_rfl) (by kernel_rfl) (by kernel_rfl) (fun _ _ _ h => h) (by decide) (Or.inl ⟨by rfl, ?_⟩) hHeld ?_
  rotate_left
  · intro wH hSw; have k0 := (hSw.cell (p := ⟨q, 0, none⟩) hp).trans h0; have k1 := (hSw.cell (p := ⟨g, cs.length * 6, none⟩) hg).trans g0; have k2 := (hSw.cell (p := ⟨g, cs.length * 6 + 1, none⟩) hg).trans g1; have k3 := (hSw.cell (p := ⟨g, cs.length * 6 + 2, none⟩) hg).trans g2; have k4 := (hSw.cell (p := ⟨g, cs.length * 6 + 3, none⟩) hg).trans g3; have k5 := (hSw.cell (p := ⟨g, cs.length * 6 + 4, none⟩) hg).trans g4; have k6 := (hSw.cell (p := ⟨g, cs.length * 6 + 5, none⟩) hg).trans g5; go_simp; try (with_reducible rfl)
  simp only [Act.put, List.setIfInBounds_toArray, List.set_cons_zero, List.set_cons_succ]
  refine AtE.take (i := 1) (v := ?_) rfl (by kernel_rfl) (by kernel_rfl) (by kernel_rfl) (fun _ _ _ h => h) (by decide) (Or.inl ⟨by rfl, ?_⟩) hHeld ?_
  rotate_left
  · intro wH hSw; have k0 := (hSw.cell (p := ⟨q, 0, none⟩) hp).trans h0; have k1 := (hSw.cell (p := ⟨g, cs.length * 6, none⟩) hg).trans g0; have k2 := (hSw.cell (p := ⟨g, cs.length * 6 + 1, none⟩) hg).trans g1; have k3 := (hSw.cell (p := ⟨g, cs.length * 6 + 2, none⟩) hg).trans g2; have k4 := (hSw.cell (p := ⟨g, cs.length * 6 + 3, none⟩) hg).trans g3; have k5 := (hSw.cell (p := ⟨g, cs.length * 6 + 4, none⟩) hg).trans g4; have k6 := (hSw.cell (p := ⟨g, cs.length * 6 + 5, none⟩) hg).trans g5; go_simp; try (with_reducible rfl)
  simp only [Act.put, List.setIfInBounds_toArray, List.set_cons_zero, List.set_cons_succ]
  refine AtE.take (i := 2) (v := ?_) rfl (by kernel_rfl) (by kernel_rfl) (by kernel_rfl) (fun _ _ _ h => h) (by decide) (Or.inl ⟨by rfl, ?_⟩) hHeld ?_
  rotate_left
  · intro wH hSw; have k0 := (hSw.cell (p := ⟨q, 0, none⟩) hp).trans h0; have k1 := (hSw.cell (p := ⟨g, cs.length * 6, none⟩) hg).trans g0; have k2 := (hSw.cell (p := ⟨g, cs.length * 6 + 1, none⟩) hg).trans g1; have k3 := (hSw.cell (p := ⟨g, cs.length * 6 + 2, none⟩) hg).trans g2; have k4 := (hSw.cell (p := ⟨g, cs.length * 6 + 3, none⟩) hg).trans g3; have k5 := (hSw.cell (p := ⟨g, cs.length * 6 + 4, none⟩) hg).trans g4; have k6 := (hSw.cell (p := ⟨g, cs.length * 6 + 5, none⟩) hg).trans g5; go_simp; try (with_reducible rfl)
  simp only [Act.put, List.setIfInBounds_toArray, List.set_cons_zero, List.set_cons_succ]
  refine AtE.take (i := 3) (v := ?_) rfl (by kernel_rfl) (by kernel_rfl) (by kernel_rfl) (fun _ _ _ h => h) (by decide) (Or.inl ⟨by rfl, ?_⟩) hHeld ?_
  rotate_left
  · intro wH hSw; have k0 := (hSw.cell (p := ⟨q, 0, none⟩) hp).trans h0; have k1 := (hSw.cell (p := ⟨g, cs.length * 6, none⟩) hg).trans g0; have k2 := (hSw.cell (p := ⟨g, cs.length * 6 + 1, none⟩) hg).trans g1; have k3 := (hSw.cell (p := ⟨g, cs.length * 6 + 2, none⟩) hg).trans g2; have k4 := (hSw.cell (p := ⟨g, cs.length * 6 + 3, none⟩) hg).trans g3; have k5 := (hSw.cell (p := ⟨g, cs.length * 6 + 4, none⟩) hg).trans g4; have k6 := (hSw.cell (p := ⟨g, cs.length * 6 + 5, none⟩) hg).trans g5; go_simp; try (with_reducible rfl)
  simp only [Act.put, List.setIfInBounds_toArray, List.set_cons_zero, List.set_cons_succ]
  refine AtE.take (i := 4) (v := ?_) rfl (by kernel_rfl) (by kernel_rfl) (by kernel_rfl) (fun _ _ _ h => h) (by decide) (Or.inl ⟨by rfl, ?_⟩) hHeld ?_
  rotate_left
  · intro wH hSw; have k0 := (hSw.cell (p := ⟨q, 0, none⟩) hp).trans h0; have k1 := (hSw.cell (p := ⟨g, cs.length * 6, none⟩) hg).trans g0; have k2 := (hSw.cell (p := ⟨g, cs.length * 6 + 1, none⟩) hg).trans g1; have k3 := (hSw.cell (p := ⟨g, cs.length * 6 + 2, none⟩) hg).trans g2; have k4 := (hSw.cell (p := ⟨g, cs.length * 6 + 3, none⟩) hg).trans g3; have k5 := (hSw.cell (p := ⟨g, cs.length * 6 + 4, none⟩) hg).trans g4; have k6 := (hSw.cell (p := ⟨g, cs.length * 6 + 5, none⟩) hg).trans g5; go_simp; try (with_reducible rfl)
  simp only [Act.put, List.setIfInBounds_toArray, List.set_cons_zero, List.set_cons_succ]
  refine AtE.take (i := 5) (v := ?_) rfl (by kernel_rfl) (by kernel_rfl) (by kernel_rfl) (fun _ _ _ h => h) (by decide) (Or.inl ⟨by rfl, ?_⟩) hHeld ?_
  rotate_left
  · intro wH hSw; have k0 := (hSw.cell (p := ⟨q, 0, none⟩) hp).trans h0; have k1 := (hSw.cell (p := ⟨g, cs.length * 6, none⟩) hg).trans g0; have k2 := (hSw.cell (p := ⟨g, cs.length * 6 + 1, none⟩) hg).trans g1; have k3 := (hSw.cell (p := ⟨g, cs.length * 6 + 2, none⟩) hg).trans g2; have k4 := (hSw.cell (p := ⟨g, cs.length * 6 + 3, none⟩) hg).trans g3; have k5 := (hSw.cell (p := ⟨g, cs.length * 6 + 4, none⟩) hg).trans g4; have k6 := (hSw.cell (p := ⟨g, cs.length * 6 + 5, none⟩) hg).trans g5; go_simp; try (with_reducible rfl)
  simp only [Act.put, List.setIfInBounds_toArray, List.set_cons_zero, List.set_cons_succ]
  refine AtE.take (i := 6) (v := ?_) rfl (by kernel_rfl) (by kernel_rfl) (by kernel_rfl) (fun _ _ _ h => h) (by decide) (Or.inl ⟨by rfl, ?_⟩) hHeld ?_
  rotate_left
  · intro wH hSw; have k0 := (hSw.cell (p := ⟨q, 0, none⟩) hp).trans h0; have k1 := (hSw.cell (p := ⟨g, cs.length * 6, none⟩) hg).trans g0; have k2 := (hSw.cell (p := ⟨g, cs.length * 6 + 1, none⟩) hg).trans g1; have k3 := (hSw.cell (p := ⟨g, cs.length * 6 + 2, none⟩) hg).trans g2; have k4 := (hSw.cell (p := ⟨g, cs.length * 6 + 3, none⟩) hg).trans g3; have k5 := (hSw.cell (p := ⟨g, cs.length * 6 + 4, none⟩) hg).trans g4; have k6 := (hSw.cell (p := ⟨g, cs.length * 6 + 5, none⟩) hg).trans g5; go_simp; try (with_reducible rfl)
  simp only [Act.put, List.setIfInBounds_toArray, List.set_cons_zero, List.set_cons_succ]
  refine AtE.take (i := 7) (v := ?_) rfl (by kernel_rfl) (by kernel_rfl) (by kernel_rfl) (fun _ _ _ h => h) (by decide) (Or.inl ⟨by rfl, ?_⟩) hHeld ?_
  rotate_left
  · intro wH hSw; have k0 := (hSw.cell (p := ⟨q, 0, none⟩) hp).trans h0; have k1 := (hSw.cell (p := ⟨g, cs.length * 6, none⟩) hg).trans g0; have k2 := (hSw.cell (p := ⟨g, cs.length * 6 + 1, none⟩) hg).trans g1; have k3 := (hSw.cell (p := ⟨g, cs.length * 6 + 2, none⟩) hg).trans g2; have k4 := (hSw.cell (p := ⟨g, cs.length * 6 + 3, none⟩) hg).trans g3; have k5 := (hSw.cell (p := ⟨g, cs.length * 6 + 4, none⟩) hg).trans g4; have k6 := (hSw.cell (p := ⟨g, cs.length * 6 + 5, none⟩) hg).trans g5; go_simp; try (with_reducible rfl)
  simp only [Act.put, List.setIfInBounds_toArray, List.set_cons_zero, List.set_cons_succ]
  refine AtE.take (i := 8) (v := ?_) rfl (by kernel_rfl) (by kernel_rfl) (by kernel_rfl) (fun _ _ _ h => h) (by decide) (Or.inl ⟨by rfl, ?_⟩) hHeld ?_
  rotate_left
  · intro wH hSw; have k0 := (hSw.cell (p := ⟨q, 0, none⟩) hp).trans h0; have k1 := (hSw.cell (p := ⟨g, cs.length * 6, none⟩) hg).trans g0; have k2 := (hSw.cell (p := ⟨g, cs.length * 6 + 1, none⟩) hg).trans g1; have k3 := (hSw.cell (p := ⟨g, cs.length * 6 + 2, none⟩) hg).trans g2; have k4 := (hSw.cell (p := ⟨g, cs.length * 6 + 3, none⟩) hg).trans g3; have k5 := (hSw.cell (p := ⟨g, cs.length * 6 + 4, none⟩) hg).trans g4; have k6 := (hSw.cell (p := ⟨g, cs.length * 6 + 5, none⟩) hg).trans g5; go_simp; try (with_reducible rfl)
  simp only [Act.put, List.setIfInBounds_toArray, List.set_cons_zero, List.set_cons_succ]
  refine AtE.take (i := 9) (v := ?_) rfl (by kernel_rfl) (by kernel_rfl) (by kernel_rfl) (fun _ _ _ h => h) (by decide) (Or.inl ⟨by rfl, ?_⟩) hHeld ?_
  rotate_left
  · intro wH hSw; have k0 := (hSw.cell (p := ⟨q, 0, none⟩) hp).trans h0; have k1 := (hSw.cell (p := ⟨g, cs.length * 6, none⟩) hg).trans g0; have k2 := (hSw.cell (p := ⟨g, cs.length * 6 + 1, none⟩) hg).trans g1; have k3 := (hSw.cell (p := ⟨g, cs.length * 6 + 2, none⟩) hg).trans g2; have k4 := (hSw.cell (p := ⟨g, cs.length * 6 + 3, none⟩) hg).trans g3; have k5 := (hSw.cell (p := ⟨g, cs.length * 6 + 4, none⟩) hg).trans g4; have k6 := (hSw.cell (p := ⟨g, cs.length * 6 + 5, none⟩) hg).trans g5; go_simp; try (with_reducible rfl)
  simp only [Act.put, List.setIfInBounds_toArray, List.set_cons_zero, List.set_cons_succ]
  refine AtE.take (i := 10) (v := ?_) rfl (by kernel_rfl) (by kernel_rfl) (by kernel_rfl) (fun _ _ _ h => h) (by decide) (Or.inl ⟨by rfl, ?_⟩) hHeld ?_
  rotate_left
  · intro wH hSw; have k0 := (hSw.cell (p := ⟨q, 0, none⟩) hp).trans h0; have k1 := (hSw.cell (p := ⟨g, cs.length * 6, none⟩) hg).trans g0; have k2 := (hSw.cell (p := ⟨g, cs.length * 6 + 1, none⟩) hg).trans g1; have k3 := (hSw.cell (p := ⟨g, cs.length * 6 + 2, none⟩) hg).trans g2; have k4 := (hSw.cell (p := ⟨g, cs.length * 6 + 3, none⟩) hg).trans g3; have k5 := (hSw.cell (p := ⟨g, cs.length * 6 + 4, none⟩) hg).trans g4; have k6 := (hSw.cell (p := ⟨g, cs.length * 6 + 5, none⟩) hg).trans g5; go_simp; try (with_reducible rfl)
  simp only [Act.put, List.setIfInBounds_toArray, List.set_cons_zero, List.set_cons_succ]
  refine AtE.take (i := 11) (v := ?_) rfl (by kernel_rfl) (by kernel_rfl) (by kernel_rfl) (fun _ _ _ h => h) (by decide) (Or.inl ⟨by rfl, ?_⟩) hHeld ?_
  rotate_left
  · intro wH hSw; have k0 := (hSw.cell (p := ⟨q, 0, none⟩) hp).trans h0; have k1 := (hSw.cell (p := ⟨g, cs.length * 6, none⟩) hg).trans g0; have k2 := (hSw.cell (p := ⟨g, cs.length * 6 + 1, none⟩) hg).trans g1; have k3 := (hSw.cell (p := ⟨g, cs.length * 6 + 2, none⟩) hg).trans g2; have k4 := (hSw.cell (p := ⟨g, cs.length * 6 + 3, none⟩) hg).trans g3; have k5 := (hSw.cell (p := ⟨g, cs.length * 6 + 4, none⟩) hg).trans g4; have k6 := (hSw.cell (p := ⟨g, cs.length * 6 + 5, none⟩) hg).trans g5; go_simp; try (with_reducible rfl)
  simp only [Act.put, List.setIfInBounds_toArray, List.set_cons_zero, List.set_cons_succ]
  refine AtE.one (i := 12) rfl (by kernel_rfl) (fun K hK => ?_)
  go_simp
  refine hK.out _ _ (fun _ => ext_trans hHeld ((ext_refl _).alloc (Nat.le_refl _) _)) (fun hHeld' => ?_)
  have hHeld := hHeld' (by decide)
  clear hK K hHeld'
  refine AtE.one (i := 13) rfl (by kernel_rfl) (fun K hK => ?_)
  go_simp
  refine hK.out _ _ (fun h => absurd rfl h) (fun _ => ?_)
  clear hK K
  refine AtE.done (by kernel_rfl) ?_
  have HX := Lib.hid (show Below w.heap.size w ((w.alloc (.cells #[.int .i64 c.p.rule, .int .i64 c.p.place, .bool c.p.has, .int .i64 c.p.end_, .int .i64 c.p.level, .slice Ac c.p.tree.length cc] 36)).drew) from ((ext_refl w).alloc (Nat.le_refl _) _).drew)
  have hB := (Blk.new w 36 #[.int .i64 c.p.rule, .int .i64 c.p.place, .bool c.p.has, .int .i64 c.p.end_, .int .i64 c.p.level, .slice Ac c.p.tree.length cc]).drew
  have h0' := (HX.out.cell (p := ⟨q, 0, none⟩) hp).trans h0
  have hgbX := hgb.ext HX.out
  have hp' := Nat.lt_of_lt_of_le hp HX.out.size
  have HCELL := Lib.hid (fun W (hb : Below w.heap.size w W) => And.intro ((hb.cell (p := ⟨g, cs.length * 6, none⟩) hg).trans g0) (And.intro ((hb.cell (p := ⟨g, cs.length * 6 + 1, none⟩) hg).trans g1) (And.intro ((hb.cell (p := ⟨g, cs.length * 6 + 2, none⟩) hg).trans g2) (And.intro ((hb.cell (p := ⟨g, cs.length * 6 + 3, none⟩) hg).trans g3)
    (And.intro ((hb.cell (p := ⟨g, cs.length * 6 + 4, none⟩) hg).trans g4) (And.intro ((hb.cell (p := ⟨g, cs.length * 6 + 5, none⟩) hg).trans g5) (And.intro (hgb.ext hb).lt (fun j => (hgb.ext hb).frozen j))))))))
  clear hHeld h0 hp hgb hg g0 g1 g2 g3 g4 g5
  obtain ⟨y, hy⟩ : ∃ y, y = w.heap.size := ⟨_, rfl⟩
  have HYY := Lib.hid hy
  rw [← hy] at hB ⊢
  clear hy
  generalize ((w.alloc (.cells #[.int .i64 c.p.rule, .int .i64 c.p.place, .bool c.p.has, .int .i64 c.p.end_, .int .i64 c.p.level, .slice Ac c.p.tree.length cc] 36)).drew) = X at *
  have h0 := h0'
  have hp := hp'
  have y0 := hB.cell 0
  have y1 := hB.cell 1
  have y2 := hB.cell 2
  have y3 := hB.cell 3
  have y4 := hB.cell 4
  have yl := hB.lt
  have HGB := Lib.hid hgbX
  have HTX := Lib.hid (fun W (hb : Below X.heap.size X W) b (hb' : At = some b) j u (hu : (ts.flatMap Twg.cells)[j]? = some u) => show W.cell? (b.add j) = some u from by
    obtain ⟨_, _, e, _, _, _, _, h4⟩ := HT.out
    injection e with e1 e2 e3
    have hpos : 0 < ts.length := by
      rcases Nat.eq_zero_or_pos ts.length with h | h
      · have := List.eq_nil_of_length_eq_zero h
        subst this
        simp at hu
      · exact h
    obtain ⟨ad, ea, hc⟩ := h4 hpos
    rw [← e1, hb'] at ea
    cases ea
    have h1 := hc j u hu
    exact ((ext_trans HX.out hb).cell (World.block_lt_of_cell? w _ h1)).trans h1)
  have HNIL := Lib.hid (show At = none → ts.length = 0 ∧ ct = 0 from fun h => ⟨by
    obtain ⟨_, _, e, h1, _, h2, _⟩ := HT.out
    injection e with e1 e2 e3
    have := h2 (by rw [← e1]; exact h)
    omega, hnil h⟩)
  clear hnil HT hB h0' hp' hgbX
  cases hb : c.p.has with
  | false =>
    have HF := Lib.hid (show furtherB c.p en lv = true from by simp [furtherB, hb])
    rw [hb] at y2
    clear hb
    go_wp2
    refine AtE.start (S := fun w' => Below X.heap.size X w') 21 (by kernel_rfl) (by kernel_rfl) (by exact (ext_refl X).drew) (fun hHeld => ?_)
    refine AtE.take (i := 0) (v := ?_) rfl (by kernel_rfl) (by kernel_rfl) (by kernel_rfl) (fun _ _ _ h => h) (by decide) (Or.inl ⟨by rfl, ?_⟩) hHeld ?_
    rotate_left
    · intro wH hSw; have k0 := (hSw.cell (p := ⟨q, 0, none⟩) hp).trans h0; have k1 := (hSw.cell (p := ⟨y, 0, none⟩) yl).trans y0; have k2 := (hSw.cell (p := ⟨y, 1, none⟩) yl).trans y1; go_simp; try (with_reducible rfl)
    simp only [Act.put, List.setIfInBounds_toArray, List.set_cons_zero, List.set_cons_succ]
    refine AtE.take (i := 1) (v := ?_) rfl (by kernel_rfl) (by kernel_rfl) (by kernel_rfl) (fun _ _ _ h => h) (by decide) (Or.inl ⟨by rfl, ?_⟩) hHeld ?_
    rotate_left
    · intro wH hSw; have k0 := (hSw.cell (p := ⟨q, 0, none⟩) hp).trans h0; have k1 := (hSw.cell (p := ⟨y, 0, none⟩) yl).trans y0; have k2 := (hSw.cell (p := ⟨y, 1, none⟩) yl).trans y1; go_simp; try (with_reducible rfl)
    simp only [Act.put, List.setIfInBounds_toArray, List.set_cons_zero, List.set_cons_succ]
    refine AtE.take (i := 2) (v := ?_) rfl (by kernel_rfl) (by kernel_rfl) (by kernel_rfl) (fun _ _ _ h => h) (by decide) (Or.inl ⟨by rfl, ?_⟩) hHeld ?_
    rotate_left
    · intro wH hSw; have k0 := (hSw.cell (p := ⟨q, 0, none⟩) hp).trans h0; have k1 := (hSw.cell (p := ⟨y, 0, none⟩) yl).trans y0; have k2 := (hSw.cell (p := ⟨y, 1, none⟩) yl).trans y1; go_simp; try (with_reducible rfl)
    simp only [Act.put, List.setIfInBounds_toArray, List.set_cons_zero, List.set_cons_succ]
    refine AtE.take (i := 3) (v := ?_) rfl (by kernel_rfl) (by kernel_rfl) (by kernel_rfl) (fun _ _ _ h => h) (by decide) (Or.inl ⟨by rfl, ?_⟩) hHeld ?_
    rotate_left
    · intro wH hSw; have k0 := (hSw.cell (p := ⟨q, 0, none⟩) hp).trans h0; have k1 := (hSw.cell (p := ⟨y, 0, none⟩) yl).trans y0; have k2 := (hSw.cell (p := ⟨y, 1, none⟩) yl).trans y1; go_simp; try (with_reducible rfl)
    simp only [Act.put, List.setIfInBounds_toArray, List.set_cons_zero, List.set_cons_succ]
    refine AtE.take (i := 4) (v := ?_) rfl (by kernel_rfl) (by kernel_rfl) (by kernel_rfl) (fun _ _ _ h => h) (by decide) (Or.inl ⟨by rfl, ?_⟩) hHeld ?_
    rotate_left
    · intro wH hSw; have k0 := (hSw.cell (p := ⟨q, 0, none⟩) hp).trans h0; have k1 := (hSw.cell (p := ⟨y, 0, none⟩) yl).trans y0; have k2 := (hSw.cell (p := ⟨y, 1, none⟩) yl).trans y1; go_simp; try (with_reducible rfl)
    simp only [Act.put, List.setIfInBounds_toArray, List.set_cons_zero, List.set_cons_succ]
    refine AtE.take (i := 5) (v := ?_) rfl (by kernel_rfl) (by kernel_rfl) (by kernel_rfl) (fun _ _ _ h => h) (by decide) (Or.inl ⟨by rfl, ?_⟩) hHeld ?_
    rotate_left
    · intro wH hSw; have k0 := (hSw.cell (p := ⟨q, 0, none⟩) hp).trans h0; have k1 := (hSw.cell (p := ⟨y, 0, none⟩) yl).trans y0; have k2 := (hSw.cell (p := ⟨y, 1, none⟩) yl).trans y1; go_simp; try (with_reducible rfl)
    simp only [Act.put, List.setIfInBounds_toArray, List.set_cons_zero, List.set_cons_succ]
    refine AtE.take (i := 6) (v := ?_) rfl (by kernel_rfl) (by kernel_rfl) (by kernel_rfl) (fun _ _ _ h => h) (by decide) (Or.inl ⟨by rfl, ?_⟩) hHeld ?_
    rotate_left
    · intro wH hSw; have k0 := (hSw.cell (p := ⟨q, 0, none⟩) hp).trans h0; have k1 := (hSw.cell (p := ⟨y, 0, none⟩) yl).trans y0; have k2 := (hSw.cell (p := ⟨y, 1, none⟩) yl).trans y1; go_simp; try (with_reducible rfl)
    simp only [Act.put, List.setIfInBounds_toArray, List.set_cons_zero, List.set_cons_succ]
    refine AtE.take (i := 7) (v := ?_) rfl (by kernel_rfl) (by kernel_rfl) (by kernel_rfl) (fun _ _ _ h => h) (by decide) (Or.inl ⟨by rfl, ?_⟩) hHeld ?_
    rotate_left
    · intro wH hSw; have k0 := (hSw.cell (p := ⟨q, 0, none⟩) hp).trans h0; have k1 := (hSw.cell (p := ⟨y, 0, none⟩) yl).trans y0; have k2 := (hSw.cell (p := ⟨y, 1, none⟩) yl).trans y1; go_simp; try (with_reducible rfl)
    simp only [Act.put, List.setIfInBounds_toArray, List.set_cons_zero, List.set_cons_succ]
    refine AtE.take (i := 8) (v := ?_) rfl (by kernel_rfl) (by kernel_rfl) (by kernel_rfl) (fun _ _ _ h => h) (by decide) (Or.inl ⟨by rfl, ?_⟩) hHeld ?_
    rotate_left
    · intro wH hSw; have k0 := (hSw.cell (p := ⟨q, 0, none⟩) hp).trans h0; have k1 := (hSw.cell (p := ⟨y, 0, none⟩) yl).trans y0; have k2 := (hSw.cell (p := ⟨y, 1, none⟩) yl).trans y1; go_simp; try (with_reducible rfl)
    simp only [Act.put, List.setIfInBounds_toArray, List.set_cons_zero, List.set_cons_succ]
    refine AtE.take (i := 9) (v := ?_) rfl (by kernel_rfl) (by kernel_rfl) (by kernel_rfl) (fun _ _ _ h => h) (by decide) (Or.inl ⟨by rfl, ?_⟩) hHeld ?_
    rotate_left
    · intro wH hSw; have k0 := (hSw.cell (p := ⟨q, 0, none⟩) hp).trans h0; have k1 := (hSw.cell (p := ⟨y, 0, none⟩) yl).trans y0; have k2 := (hSw.cell (p := ⟨y, 1, none⟩) yl).trans y1; go_simp; try (with_reducible rfl)
    simp only [Act.put, List.setIfInBounds_toArray, List.set_cons_zero, List.set_cons_succ]
    refine AtE.take (i := 10) (v := ?_) rfl (by kernel_rfl) (by kernel_rfl) (by kernel_rfl) (fun _ _ _ h => h) (by decide) (Or.inl ⟨by rfl, ?_⟩) hHeld ?_
    rotate_left
    · intro wH hSw; have k0 := (hSw.cell (p := ⟨q, 0, none⟩) hp).trans h0; have k1 := (hSw.cell (p := ⟨y, 0, none⟩) yl).trans y0; have k2 := (hSw.cell (p := ⟨y, 1, none⟩) yl).trans y1; go_simp; try (with_reducible rfl)
    simp only [Act.put, List.setIfInBounds_toArray, List.set_cons_zero, List.set_cons_succ]
    refine AtE.take (i := 11) (v := ?_) rfl (by kernel_rfl) (by kernel_rfl) (by kernel_rfl) (fun _ _ _ h => h) (by decide) (Or.inl ⟨by rfl, ?_⟩) hHeld ?_
    rotate_left
    · intro wH hSw; have k0 := (hSw.cell (p := ⟨q, 0, none⟩) hp).trans h0; have k1 := (hSw.cell (p := ⟨y, 0, none⟩) yl).trans y0; have k2 := (hSw.cell (p := ⟨y, 1, none⟩) yl).trans y1; go_simp; try (with_reducible rfl)
    simp only [Act.put, List.setIfInBounds_toArray, List.set_cons_zero, List.set_cons_succ]
    refine AtE.take (i := 12) (v := ?_) rfl (by kernel_rfl) (by kernel_rfl) (by kernel_rfl) (fun _ _ _ h => h) (by decide) (Or.inl ⟨by rfl, ?_⟩) hHeld ?_
    rotate_left
    · intro wH hSw; have k0 := (hSw.cell (p := ⟨q, 0, none⟩) hp).trans h0; have k1 := (hSw.cell (p := ⟨y, 0, none⟩) yl).trans y0; have k2 := (hSw.cell (p := ⟨y, 1, none⟩) yl).trans y1; go_simp; try (with_reducible rfl)
    simp only [Act.put, List.setIfInBounds_toArray, List.set_cons_zero, List.set_cons_succ]
    refine AtE.take (i := 13) (v := ?_) rfl (by kernel_rfl) (by kernel_rfl) (by kernel_rfl) (fun _ _ _ h => h) (by decide) (Or.inl ⟨by rfl, ?_⟩) hHeld ?_
    rotate_left
    · intro wH hSw; have k0 := (hSw.cell (p := ⟨q, 0, none⟩) hp).trans h0; have k1 := (hSw.cell (p := ⟨y, 0, none⟩) yl).trans y0; have k2 := (hSw.cell (p := ⟨y, 1, none⟩) yl).trans y1; go_simp; try (with_reducible rfl)
    simp only [Act.put, List.setIfInBounds_toArray, List.set_cons_zero, List.set_cons_succ]
    refine AtE.take (i := 14) (v := ?_) rfl (by kernel_rfl) (by kernel_rfl) (by kernel_rfl) (fun _ _ _ h => h) (by decide) (Or.inl ⟨by rfl, ?_⟩) hHeld ?_
    rotate_left
    · intro wH hSw; have k0 := (hSw.cell (p := ⟨q, 0, none⟩) hp).trans h0; have k1 := (hSw.cell (p := ⟨y, 0, none⟩) yl).trans y0; have k2 := (hSw.cell (p := ⟨y, 1, none⟩) yl).trans y1; go_simp; try (with_reducible rfl)
    simp only [Act.put, List.setIfInBounds_toArray, List.set_cons_zero, List.set_cons_succ]
    refine AtE.take (i := 15) (v := ?_) rfl (by kernel_rfl) (by kernel_rfl) (by kernel_rfl) (fun _ _ _ h => h) (by decide) (Or.inl ⟨by rfl, ?_⟩) hHeld ?_
    rotate_left
    · intro wH hSw; have k0 := (hSw.cell (p := ⟨q, 0, none⟩) hp).trans h0; have k1 := (hSw.cell (p := ⟨y, 0, none⟩) yl).trans y0; have k2 := (hSw.cell (p := ⟨y, 1, none⟩) yl).trans y1; go_simp; try (with_reducible rfl)
    simp only [Act.put, List.setIfInBounds_toArray, List.set_cons_zero, List.set_cons_succ]
    refine AtE.take (i := 17) (v := ?_) rfl (by kernel_rfl) (by kernel_rfl) (by kernel_rfl) (fun _ _ _ h => h) (by decide) (Or.inl ⟨by rfl, ?_⟩) hHeld ?_
    rotate_left
    · intro wH hSw; have k0 := (hSw.cell (p := ⟨q, 0, none⟩) hp).trans h0; have k1 := (hSw.cell (p := ⟨y, 0, none⟩) yl).trans y0; have k2 := (hSw.cell (p := ⟨y, 1, none⟩) yl).trans y1; go_simp; try (with_reducible rfl)
    simp only [Act.put, List.setIfInBounds_toArray, List.set_cons_zero, List.set_cons_succ]
    refine AtE.one (i := 16) rfl (by kernel_rfl) (fun K hK => ?_)
    go_simp
    refine hK.out _ _ (fun _ => ext_trans hHeld ((ext_refl _).alloc (Nat.le_refl _) _)) (fun hHeld' => ?_)
    have hHeld := hHeld' (by decide)
    clear hK K hHeld'
    refine AtE.one (i := 18) rfl (by kernel_rfl) (fun K hK => ?_)
    have hcl : ∀ b, At = some b → ∀ j u, (ts.flatMap Twg.cells)[j]? = some u → (X.drew.alloc (.cells #[] 61)).cell? (b.add j) = some u := fun b hb j u hu => (HTX.out _ hHeld b hb j u hu)
    refine step_app (by rfl) (.tmp 58) (.tmp 59) 31 (by rfl) 61 i0 _ 5 40 Try.underlying31 hi hz0 hz1 hz2 rfl (by decide) (.slice (some ⟨X.heap.size, 0, none⟩) 0 0) 0 [] (by rfl) (own_empty X.drew _ _) At ts.length ct (ts.flatMap Twg.cells) (by rfl) (twgs_len ts) HNIL.out hcl (twg_oneCell ts) (by unfold maxLen; omega) (by omega) ?_
    intro A2 c2 Y hrow2 hu2 hv2 hz2'
    simp only [Nat.zero_add, List.nil_append] at hrow2 hv2 ⊢
    have hXY : Below X.heap.size X Y := hHeld.trans (hu2.below (B := X.heap.size) hHeld.size (fun k hk e => by simp [Value.ownBlock] at e; omega))
    have HR := Lib.hid (And.intro hrow2 (fun k hk => show X.heap.size ≤ k from (hv2 k hk).elim (fun h => by simp [Value.ownBlock] at h; omega) (fun h => by simp at h; omega)))
    refine hK.out _ _ (fun _ => hXY) (fun hHeld' => ?_)
    clear hHeld hrow2 hu2 hv2 hz2' hXY hcl
    have hHeld := hHeld' (by decide)
    clear hK K hHeld'
    refine AtE.take (i := 19) (v := ?_) rfl (by kernel_rfl) (by kernel_rfl) (by kernel_rfl) (fun _ _ _ h => h) (by decide) (Or.inl ⟨by rfl, ?_⟩) hHeld ?_
    rotate_left
    · intro wH hSw; have k0 := (hSw.cell (p := ⟨q, 0, none⟩) hp).trans h0; have k1 := (hSw.cell (p := ⟨y, 0, none⟩) yl).trans y0; have k2 := (hSw.cell (p := ⟨y, 1, none⟩) yl).trans y1; go_simp; try (with_reducible rfl)
    simp only [Act.put, List.setIfInBounds_toArray, List.set_cons_zero, List.set_cons_succ]
    refine AtE.take (i := 20) (v := ?_) rfl (by kernel_rfl) (by kernel_rfl) (by kernel_rfl) (fun _ _ _ h => h) (by decide) (Or.inl ⟨by rfl, ?_⟩) hHeld ?_
    rotate_left
    · intro wH hSw; have k0 := (hSw.cell (p := ⟨q, 0, none⟩) hp).trans h0; have k1 := (hSw.cell (p := ⟨y, 0, none⟩) yl).trans y0; have k2 := (hSw.cell (p := ⟨y, 1, none⟩) yl).trans y1; go_simp; try (with_reducible rfl)
    simp only [Act.put, List.setIfInBounds_toArray, List.set_cons_zero, List.set_cons_succ]
    refine AtE.one (i := 21) rfl (by kernel_rfl) (fun K hK => ?_)
    obtain ⟨s0, s1, s2, s3, s4, s5, sl, sf⟩ := HCELL.out _ (ext_trans HX.out hHeld)
    have z0 := sf (cs.length * 6)
    have z1 := sf (cs.length * 6 + 1)
    have z2 := sf (cs.length * 6 + 2)
    have z3 := sf (cs.length * 6 + 3)
    have z4 := sf (cs.length * 6 + 4)
    have z5 := sf (cs.length * 6 + 5)
    go_simp
    refine hK.out _ _ (fun h => absurd rfl h) (fun _ => ?_)
    clear hK K
    clear s0 s1 s2 s3 s4 s5 sl sf z0 z1 z2 z3 z4 z5
    refine AtE.done (by kernel_rfl) ?_
    go_wp2
    go_ret
    obtain ⟨hr, hrn⟩ := HR.out
    have hbW := ext_trans HX.out hHeld
    have hL := (HS.out.ext hbW).setLast (d := ⟨{ c.p with has := true, end_ := en, level := lv, tree := ts }, .slice A2 ts.length c2⟩) (by rw [List.length_append]; rfl) hr
    refine ⟨0, rfl, HP.out.2 HF.out _ _ hL.1 ⟨(Upd.of_ext hbW).trans (hL.2.mono (fun k _ hk => .inr (.inl (by rw [hk]; rfl)))), fun k hk => ?_⟩⟩
    rcases hk with rfl | hk | ⟨d, hd, hk⟩
    · exact .inl (.inl rfl)
    · exact .inl (.inr (.inl hk))
    · rcases List.mem_append.1 hd with h | h
      · exact .inl (.inr (.inr ⟨d, List.mem_append_left _ h, hk⟩))
      · obtain rfl : d = _ := by simpa using h
        exact .inr (Nat.le_trans HX.out.size (hrn k hk))
  | true =>
    rw [hb] at y2
    by_cases he : en ≤ c.p.end_
    · have HF := Lib.hid (show furtherB c.p en lv = false from by simp [furtherB, hb]; omega)
      clear hb
      go_wp2
      go_ret
      exact ⟨2, rfl, HP.out.1 HF.out _ HX.out⟩
    · by_cases hv : (lv == c.p.level) = true
      · have hv' : (lv != c.p.level) = false := by simpa using hv
        have HF := Lib.hid (show furtherB c.p en lv = true from by simp [furtherB, hb, hv]; omega)
        clear hb
        go_wp2
        refine AtE.start (S := fun w' => Below X.heap.size X w') 21 (by kernel_rfl) (by kernel_rfl) (by exact (ext_refl X).drew) (fun hHeld => ?_)
        refine AtE.take (i := 0) (v := ?_) rfl (by kernel_rfl) (by kernel_rfl) (by kernel_rfl) (fun _ _ _ h => h) (by decide) (Or.inl ⟨by rfl, ?_⟩) hHeld ?_
        rotate_left
        · intro wH hSw; have k0 := (hSw.cell (p := ⟨q, 0, none⟩) hp).trans h0; have k1 := (hSw.cell (p := ⟨y, 0, none⟩) yl).trans y0; have k2 := (hSw.cell (p := ⟨y, 1, none⟩) yl).trans y1; go_simp; try (with_reducible rfl)
        simp only [Act.put, List.setIfInBounds_toArray, List.set_cons_zero, List.set_cons_succ]
        refine AtE.take (i := 1) (v := ?_) rfl (by kernel_rfl) (by kernel_rfl) (by kernel_rfl) (fun _ _ _ h => h) (by decide) (Or.inl ⟨by rfl, ?_⟩) hHeld ?_
        rotate_left
        · intro wH hSw; have k0 := (hSw.cell (p := ⟨q, 0, none⟩) hp).trans h0; have k1 := (hSw.cell (p := ⟨y, 0, none⟩) yl).trans y0; have k2 := (hSw.cell (p := ⟨y, 1, none⟩) yl).trans y1; go_simp; try (with_reducible rfl)
        simp only [Act.put, List.setIfInBounds_toArray, List.set_cons_zero, List.set_cons_succ]
        refine AtE.take (i := 2) (v := ?_) rfl (by kernel_rfl) (by kernel_rfl) (by kernel_rfl) (fun _ _ _ h => h) (by decide) (Or.inl ⟨by rfl, ?_⟩) hHeld ?_
        rotate_left
        · intro wH hSw; have k0 := (hSw.cell (p := ⟨q, 0, none⟩) hp).trans h0; have k1 := (hSw.cell (p := ⟨y, 0, none⟩) yl).trans y0; have k2 := (hSw.cell (p := ⟨y, 1, none⟩) yl).trans y1; go_simp; try (with_reducible rfl)
        simp only [Act.put, List.setIfInBounds_toArray, List.set_cons_zero, List.set_cons_succ]
        refine AtE.take (i := 3) (v := ?_) rfl (by kernel_rfl) (by kernel_rfl) (by kernel_rfl) (fun _ _ _ h => h) (by decide) (Or.inl ⟨by rfl, ?_⟩) hHeld ?_
        rotate_left
        · intro wH hSw; have k0 := (hSw.cell (p := ⟨q, 0, none⟩) hp).trans h0; have k1 := (hSw.cell (p := ⟨y, 0, none⟩) yl).trans y0; have k2 := (hSw.cell (p := ⟨y, 1, none⟩) yl).trans y1; go_simp; try (with_reducible rfl)
        simp only [Act.put, List.setIfInBounds_toArray, List.set_cons_zero, List.set_cons_succ]
        refine AtE.take (i := 4) (v := ?_) rfl (by kernel_rfl) (by kernel_rfl) (by kernel_rfl) (fun _ _ _ h => h) (by decide) (Or.inl ⟨by rfl, ?_⟩) hHeld ?_
        rotate_left
        · intro wH hSw; have k0 := (hSw.cell (p := ⟨q, 0, none⟩) hp).trans h0; have k1 := (hSw.cell (p := ⟨y, 0, none⟩) yl).trans y0; have k2 := (hSw.cell (p := ⟨y, 1, none⟩) yl).trans y1; go_simp; try (with_reducible rfl)
        simp only [Act.put, List.setIfInBounds_toArray, List.set_cons_zero, List.set_cons_succ]
        refine AtE.take (i := 5) (v := ?_) rfl (by kernel_rfl) (by kernel_rfl) (by kernel_rfl) (fun _ _ _ h => h) (by decide) (Or.inl ⟨by rfl, ?_⟩) hHeld ?_
        rotate_left
        · intro wH hSw; have k0 := (hSw.cell (p := ⟨q, 0, none⟩) hp).trans h0; have k1 := (hSw.cell (p := ⟨y, 0, none⟩) yl).trans y0; have k2 := (hSw.cell (p := ⟨y, 1, none⟩) yl).trans y1; go_simp; try (with_reducible rfl)
        simp only [Act.put, List.setIfInBounds_toArray, List.set_cons_zero, List.set_cons_succ]
        refine AtE.take (i := 6) (v := ?_) rfl (by kernel_rfl) (by kernel_rfl) (by kernel_rfl) (fun _ _ _ h => h) (by decide) (Or.inl ⟨by rfl, ?_⟩) hHeld ?_
        rotate_left
        · intro wH hSw; have k0 := (hSw.cell (p := ⟨q, 0, none⟩) hp).trans h0; have k1 := (hSw.cell (p := ⟨y, 0, none⟩) yl).trans y0; have k2 := (hSw.cell (p := ⟨y, 1, none⟩) yl).trans y1; go_simp; try (with_reducible rfl)
        simp only [Act.put, List.setIfInBounds_toArray, List.set_cons_zero, List.set_cons_succ]
        refine AtE.take (i := 7) (v := ?_) rfl (by kernel_rfl) (by kernel_rfl) (by kernel_rfl) (fun _ _ _ h => h) (by decide) (Or.inl ⟨by rfl, ?_⟩) hHeld ?_
        rotate_left
        · intro wH hSw; have k0 := (hSw.cell (p := ⟨q, 0, none⟩) hp).trans h0; have k1 := (hSw.cell (p := ⟨y, 0, none⟩) yl).trans y0; have k2 := (hSw.cell (p := ⟨y, 1, none⟩) yl).trans y1; go_simp; try (with_reducible rfl)
        simp only [Act.put, List.setIfInBounds_toArray, List.set_cons_zero, List.set_cons_succ]
        refine AtE.take (i := 8) (v := ?_) rfl (by kernel_rfl) (by kernel_rfl) (by kernel_rfl) (fun _ _ _ h => h) (by decide) (Or.inl ⟨by rfl, ?_⟩) hHeld ?_
        rotate_left
        · intro wH hSw; have k0 := (hSw.cell (p := ⟨q, 0, none⟩) hp).trans h0; have k1 := (hSw.cell (p := ⟨y, 0, none⟩) yl).trans y0; have k2 := (hSw.cell (p := ⟨y, 1, none⟩) yl).trans y1; go_simp; try (with_reducible rfl)
        simp only [Act.put, List.setIfInBounds_toArray, List.set_cons_zero, List.set_cons_succ]
        refine AtE.take (i := 9) (v := ?_) rfl (by kernel_rfl) (by kernel_rfl) (by kernel_rfl) (fun _ _ _ h => h) (by decide) (Or.inl ⟨by rfl, ?_⟩) hHeld ?_
        rotate_left
        · intro wH hSw; have k0 := (hSw.cell (p := ⟨q, 0, none⟩) hp).trans h0; have k1 := (hSw.cell (p := ⟨y, 0, none⟩) yl).trans y0; have k2 := (hSw.cell (p := ⟨y, 1, none⟩) yl).trans y1; go_simp; try (with_reducible rfl)
        simp only [Act.put, List.setIfInBounds_toArray, List.set_cons_zero, List.set_cons_succ]
        refine AtE.take (i := 10) (v := ?_) rfl (by kernel_rfl) (by kernel_rfl) (by kernel_rfl) (fun _ _ _ h => h) (by decide) (Or.inl ⟨by rfl, ?_⟩) hHeld ?_
        rotate_left
        · intro wH hSw; have k0 := (hSw.cell (p := ⟨q, 0, none⟩) hp).trans h0; have k1 := (hSw.cell (p := ⟨y, 0, none⟩) yl).trans y0; have k2 := (hSw.cell (p := ⟨y, 1, none⟩) yl).trans y1; go_simp; try (with_reducible rfl)
        simp only [Act.put, List.setIfInBounds_toArray, List.set_cons_zero, List.set_cons_succ]
        refine AtE.take (i := 11) (v := ?_) rfl (by kernel_rfl) (by kernel_rfl) (by kernel_rfl) (fun _ _ _ h => h) (by decide) (Or.inl ⟨by rfl, ?_⟩) hHeld ?_
        rotate_left
        · intro wH hSw; have k0 := (hSw.cell (p := ⟨q, 0, none⟩) hp).trans h0; have k1 := (hSw.cell (p := ⟨y, 0, none⟩) yl).trans y0; have k2 := (hSw.cell (p := ⟨y, 1, none⟩) yl).trans y1; go_simp; try (with_reducible rfl)
        simp only [Act.put, List.setIfInBounds_toArray, List.set_cons_zero, List.set_cons_succ]
        refine AtE.take (i := 12) (v := ?_) rfl (by kernel_rfl) (by kernel_rfl) (by kernel_rfl) (fun _ _ _ h => h) (by decide) (Or.inl ⟨by rfl, ?_⟩) hHeld ?_
        rotate_left
        · intro wH hSw; have k0 := (hSw.cell (p := ⟨q, 0, none⟩) hp).trans h0; have k1 := (hSw.cell (p := ⟨y, 0, none⟩) yl).trans y0; have k2 := (hSw.cell (p := ⟨y, 1, none⟩) yl).trans y1; go_simp; try (with_reducible rfl)
        simp only [Act.put, List.setIfInBounds_toArray, List.set_cons_zero, List.set_cons_succ]
        refine AtE.take (i := 13) (v := ?_) rfl (by kernel_rfl) (by kernel_rfl) (by kernel_rfl) (fun _ _ _ h => h) (by decide) (Or.inl ⟨by rfl, ?_⟩) hHeld ?_
        rotate_left
        · intro wH hSw; have k0 := (hSw.cell (p := ⟨q, 0, none⟩) hp).trans h0; have k1 := (hSw.cell (p := ⟨y, 0, none⟩) yl).trans y0; have k2 := (hSw.cell (p := ⟨y, 1, none⟩) yl).trans y1; go_simp; try (with_reducible rfl)
        simp only [Act.put, List.setIfInBounds_toArray, List.set_cons_zero, List.set_cons_succ]
        refine AtE.take (i := 14) (v := ?_) rfl (by kernel_rfl) (by kernel_rfl) (by kernel_rfl) (fun _ _ _ h => h) (by decide) (Or.inl ⟨by rfl, ?_⟩) hHeld ?_
        rotate_left
        · intro wH hSw; have k0 := (hSw.cell (p := ⟨q, 0, none⟩) hp).trans h0; have k1 := (hSw.cell (p := ⟨y, 0, none⟩) yl).trans y0; have k2 := (hSw.cell (p := ⟨y, 1, none⟩) yl).trans y1; go_simp; try (with_reducible rfl)
        simp only [Act.put, List.setIfInBounds_toArray, List.set_cons_zero, List.set_cons_succ]
        refine AtE.take (i := 15) (v := ?_) rfl (by kernel_rfl) (by kernel_rfl) (by kernel_rfl) (fun _ _ _ h => h) (by decide) (Or.inl ⟨by rfl, ?_⟩) hHeld ?_
        rotate_left
        · intro wH hSw; have k0 := (hSw.cell (p := ⟨q, 0, none⟩) hp).trans h0; have k1 := (hSw.cell (p := ⟨y, 0, none⟩) yl).trans y0; have k2 := (hSw.cell (p := ⟨y, 1, none⟩) yl).trans y1; go_simp; try (with_reducible rfl)
        simp only [Act.put, List.setIfInBounds_toArray, List.set_cons_zero, List.set_cons_succ]
        refine AtE.take (i := 17) (v := ?_) rfl (by kernel_rfl) (by kernel_rfl) (by kernel_rfl) (fun _ _ _ h => h) (by decide) (Or.inl ⟨by rfl, ?_⟩) hHeld ?_
        rotate_left
        · intro wH hSw; have k0 := (hSw.cell (p := ⟨q, 0, none⟩) hp).trans h0; have k1 := (hSw.cell (p := ⟨y, 0, none⟩) yl).trans y0; have k2 := (hSw.cell (p := ⟨y, 1, none⟩) yl).trans y1; go_simp; try (with_reducible rfl)
        simp only [Act.put, List.setIfInBounds_toArray, List.set_cons_zero, List.set_cons_succ]
        refine AtE.one (i := 16) rfl (by kernel_rfl) (fun K hK => ?_)
        go_simp
        refine hK.out _ _ (fun _ => ext_trans hHeld ((ext_refl _).alloc (Nat.le_refl _) _)) (fun hHeld' => ?_)
        have hHeld := hHeld' (by decide)
        clear hK K hHeld'
        refine AtE.one (i := 18) rfl (by kernel_rfl) (fun K hK => ?_)
        have hcl : ∀ b, At = some b → ∀ j u, (ts.flatMap Twg.cells)[j]? = some u → (X.drew.alloc (.cells #[] 61)).cell? (b.add j) = some u := fun b hb j u hu => (HTX.out _ hHeld b hb j u hu)
        refine step_app (by rfl) (.tmp 58) (.tmp 59) 31 (by rfl) 61 i0 _ 5 40 Try.underlying31 hi hz0 hz1 hz2 rfl (by decide) (.slice (some ⟨X.heap.size, 0, none⟩) 0 0) 0 [] (by rfl) (own_empty X.drew _ _) At ts.length ct (ts.flatMap Twg.cells) (by rfl) (twgs_len ts) HNIL.out hcl (twg_oneCell ts) (by unfold maxLen; omega) (by omega) ?_
        intro A2 c2 Y hrow2 hu2 hv2 hz2'
        simp only [Nat.zero_add, List.nil_append] at hrow2 hv2 ⊢
        have hXY : Below X.heap.size X Y := hHeld.trans (hu2.below (B := X.heap.size) hHeld.size (fun k hk e => by simp [Value.ownBlock] at e; omega))
        have HR := Lib.hid (And.intro hrow2 (fun k hk => show X.heap.size ≤ k from (hv2 k hk).elim (fun h => by simp [Value.ownBlock] at h; omega) (fun h => by simp at h; omega)))
        refine hK.out _ _ (fun _ => hXY) (fun hHeld' => ?_)
        clear hHeld hrow2 hu2 hv2 hz2' hXY hcl
        have hHeld := hHeld' (by decide)
        clear hK K hHeld'
        refine AtE.take (i := 19) (v := ?_) rfl (by kernel_rfl) (by kernel_rfl) (by kernel_rfl) (fun _ _ _ h => h) (by decide) (Or.inl ⟨by rfl, ?_⟩) hHeld ?_
        rotate_left
        · intro wH hSw; have k0 := (hSw.cell (p := ⟨q, 0, none⟩) hp).trans h0; have k1 := (hSw.cell (p := ⟨y, 0, none⟩) yl).trans y0; have k2 := (hSw.cell (p := ⟨y, 1, none⟩) yl).trans y1; go_simp; try (with_reducible rfl)
        simp only [Act.put, List.setIfInBounds_toArray, List.set_cons_zero, List.set_cons_succ]
        refine AtE.take (i := 20) (v := ?_) rfl (by kernel_rfl) (by kernel_rfl) (by kernel_rfl) (fun _ _ _ h => h) (by decide) (Or.inl ⟨by rfl, ?_⟩) hHeld ?_
        rotate_left
        · intro wH hSw; have k0 := (hSw.cell (p := ⟨q, 0, none⟩) hp).trans h0; have k1 := (hSw.cell (p := ⟨y, 0, none⟩) yl).trans y0; have k2 := (hSw.cell (p := ⟨y, 1, none⟩) yl).trans y1; go_simp; try (with_reducible rfl)
        simp only [Act.put, List.setIfInBounds_toArray, List.set_cons_zero, List.set_cons_succ]
        refine AtE.one (i := 21) rfl (by kernel_rfl) (fun K hK => ?_)
        obtain ⟨s0, s1, s2, s3, s4, s5, sl, sf⟩ := HCELL.out _ (ext_trans HX.out hHeld)
        have z0 := sf (cs.length * 6)
        have z1 := sf (cs.length * 6 + 1)
        have z2 := sf (cs.length * 6 + 2)
        have z3 := sf (cs.length * 6 + 3)
        have z4 := sf (cs.length * 6 + 4)
        have z5 := sf (cs.length * 6 + 5)
        go_simp
        refine hK.out _ _ (fun h => absurd rfl h) (fun _ => ?_)
        clear hK K
        clear s0 s1 s2 s3 s4 s5 sl sf z0 z1 z2 z3 z4 z5
        refine AtE.done (by kernel_rfl) ?_
        go_wp2
        go_ret
        obtain ⟨hr, hrn⟩ := HR.out
        have hbW := ext_trans HX.out hHeld
        have hL := (HS.out.ext hbW).setLast (d := ⟨{ c.p with has := true, end_ := en, level := lv, tree := ts }, .slice A2 ts.length c2⟩) (by rw [List.length_append]; rfl) hr
        refine ⟨0, rfl, HP.out.2 HF.out _ _ hL.1 ⟨(Upd.of_ext hbW).trans (hL.2.mono (fun k _ hk => .inr (.inl (by rw [hk]; rfl)))), fun k hk => ?_⟩⟩
        rcases hk with rfl | hk | ⟨d, hd, hk⟩
        · exact .inl (.inl rfl)
        · exact .inl (.inr (.inl hk))
        · rcases List.mem_append.1 hd with h | h
          · exact .inl (.inr (.inr ⟨d, List.mem_append_left _ h, hk⟩))
          · obtain rfl : d = _ := by simpa using h
            exact .inr (Nat.le_trans HX.out.size (hrn k hk))
      · have hv' : (lv != c.p.level) = true := by simpa using hv
        have HF := Lib.hid (show furtherB c.p en lv = false from by simp [furtherB, hb]; intro _; simpa using hv)
        clear hb hv
        go_wp2
        go_ret
        exact ⟨2, rfl, HP.out.1 HF.out _ HX.out⟩
end Go.Proofs.Ytchmlhceidociaa
