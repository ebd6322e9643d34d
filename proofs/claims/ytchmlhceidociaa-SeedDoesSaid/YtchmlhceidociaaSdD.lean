/- The store's methods: the last pair ends, or grows. -/
import Derived.Test.YtchmlhceidociaaSdC
namespace Go.Proofs.Ytchmlhceidociaa
set_option linter.unusedVariables false
set_option linter.unusedSimpArgs false
open Go.RowKit

/-- a number is told, of which P holds -/
def RetI (P : Int → World → Prop) (e : Ending) (w : World) : Prop := ∃ r, e = .returned (.int .i64 r) ∧ P r w
theorem SdC.drop {w w1 w2 : World} {p m : Nat} {v v' : Value} {cs : List PrC} {c : PrC} (h : SdC w p v m (cs ++ [c])) (hb : Blk w1 p 57 #[v', .map (some m)]) (hrow : w1.ownsRow 0 64 2 v' cs.length (rowP cs))
    (hu : Upd (fun k => k = p) w w1) (hv : v'.ownBlock = v.ownBlock) (hm : MapAt w2 m enc2 (entP cs)) (hu2 : Upd (· = m) w1 w2) : SdC w2 p v' m cs := by
  have hpm := h.pm
  refine ⟨hb.keep hu2 hpm, ?_, hm, ?_, ?_⟩
  · exact ownsRow_keep hrow hu2 (fun k hk e => h.own_nm (by rw [← hv, hk, e]))
  · intro d hd
    have ht := h.trees d (List.mem_append_left _ hd)
    have h1 := ht.keep hu (fun k hk e => by subst e; exact ht.ne h.blk (by decide) hk)
    refine h1.keep hu2 (fun k hk e => ?_)
    subst e
    obtain ⟨cur, hb'⟩ := own_blk ht hk
    exact h.map.ne_cells hb' rfl
  · have := h.apart
    rw [List.map_append, List.nodup_append] at this
    exact this.1

set_option maxRecDepth 100000 in
set_option maxHeartbeats 800000 in
theorem slets_any (p m : Nat) (v : Value) (cs : List PrC) (c : PrC) (w : World) (hs : SdC w p v m (cs ++ [c])) :
    Calls Try.prog 28 #[.pointer (some ⟨p, 0, none⟩), .agg #[.int .i64 c.p.rule, .int .i64 c.p.place]] w fun e w' => e = .returned (.int .i64 0) ∧
      ∃ v', SdC w' p v' m cs ∧ Upd (SCore p v m) w w' ∧ v'.ownBlock = v.ownBlock := by
  have hp := hs.blk.lt
  have HS := Lib.hid hs
  have HK := Lib.hid hs.last_not
  clear hs
  go_enter Try.func28, Try.ntmps28
  have hb1 := (ext_refl w).alloc (Nat.le_refl _) (.cells #[.int .i64 c.p.rule, .int .i64 c.p.place] 64)
  have hB := Blk.new w 64 #[.int .i64 c.p.rule, .int .i64 c.p.place]
  have HB1 := Lib.hid (And.intro hb1 hB)
  clear hb1 hB
  go_wp2_with (first
    | (go_at_call 42; refine (spop_any p m v cs c _ (HS.out.ext HB1.out.1)).mono ?_; rintro e Y ⟨rfl, v', hbY, hrY, huY, hvY⟩))
  have hBY := HB1.out.2.keep huY (fun e => by have := HS.out.blk.lt; omega)
  obtain ⟨q, hq⟩ : ∃ q, q = w.heap.size := ⟨_, rfl⟩
  rw [← hq] at hBY ⊢
  clear hq
  have c0 := hBY.cell 0
  have c1 := hBY.cell 1
  have cl := hBY.lt
  have d1 := hbY.cell 1
  have dl := hbY.lt
  have hmY := ((HS.out.ext HB1.out.1).map).keep huY (fun h => HS.out.pm h.symm)
  rw [entP_snoc] at hmY
  have HY := Lib.hid (And.intro hbY (And.intro hrY (And.intro ((Upd.of_ext HB1.out.1).trans huY) (And.intro hvY hmY))))
  clear hbY hrY huY hvY hBY hmY
  refine AtE.start (S := fun w' => Below Y.heap.size Y w') 5 (by kernel_rfl) (by kernel_rfl) (by exact (ext_refl Y).drew) (fun hHeld => ?_)
  refine AtE.take (i := 0) (v := ?_) rfl (by kernel_rfl) (by kernel_rfl) (by kernel_rfl) (fun _ _ _ h => h) (by decide) (Or.inl ⟨by rfl, ?_⟩) hHeld ?_
  rotate_left
  · intro wH hSw; have k1 := (hSw.cell (p := ⟨p, 1, none⟩) dl).trans d1; have k2 := (hSw.cell (p := ⟨q, 0, none⟩) cl).trans c0; have k3 := (hSw.cell (p := ⟨q, 1, none⟩) cl).trans c1; go_simp; try (with_reducible rfl)
  simp only [Act.put, List.setIfInBounds_toArray, List.set_cons_zero, List.set_cons_succ]
  refine AtE.take (i := 1) (v := ?_) rfl (by kernel_rfl) (by kernel_rfl) (by kernel_rfl) (fun _ _ _ h => h) (by decide) (Or.inl ⟨by rfl, ?_⟩) hHeld ?_
  rotate_left
  · intro wH hSw; have k1 := (hSw.cell (p := ⟨p, 1, none⟩) dl).trans d1; have k2 := (hSw.cell (p := ⟨q, 0, none⟩) cl).trans c0; have k3 := (hSw.cell (p := ⟨q, 1, none⟩) cl).trans c1; go_simp; try (with_reducible rfl)
  simp only [Act.put, List.setIfInBounds_toArray, List.set_cons_zero, List.set_cons_succ]
  refine AtE.take (i := 2) (v := ?_) rfl (by kernel_rfl) (by kernel_rfl) (by kernel_rfl) (fun _ _ _ h => h) (by decide) (Or.inl ⟨by rfl, ?_⟩) hHeld ?_
  rotate_left
  · intro wH hSw; have k1 := (hSw.cell (p := ⟨p, 1, none⟩) dl).trans d1; have k2 := (hSw.cell (p := ⟨q, 0, none⟩) cl).trans c0; have k3 := (hSw.cell (p := ⟨q, 1, none⟩) cl).trans c1; go_simp; try (with_reducible rfl)
  simp only [Act.put, List.setIfInBounds_toArray, List.set_cons_zero, List.set_cons_succ]
  refine AtE.take (i := 3) (v := ?_) rfl (by kernel_rfl) (by kernel_rfl) (by kernel_rfl) (fun _ _ _ h => h) (by decide) (Or.inl ⟨by rfl, ?_⟩) hHeld ?_
  rotate_left
  · intro wH hSw; have k1 := (hSw.cell (p := ⟨p, 1, none⟩) dl).trans d1; have k2 := (hSw.cell (p := ⟨q, 0, none⟩) cl).trans c0; have k3 := (hSw.cell (p := ⟨q, 1, none⟩) cl).trans c1; go_simp; try (with_reducible rfl)
  simp only [Act.put, List.setIfInBounds_toArray, List.set_cons_zero, List.set_cons_succ]
  refine AtE.take (i := 4) (v := ?_) rfl (by kernel_rfl) (by kernel_rfl) (by kernel_rfl) (fun _ _ _ h => h) (by decide) (Or.inl ⟨by rfl, ?_⟩) hHeld ?_
  rotate_left
  · intro wH hSw; have k1 := (hSw.cell (p := ⟨p, 1, none⟩) dl).trans d1; have k2 := (hSw.cell (p := ⟨q, 0, none⟩) cl).trans c0; have k3 := (hSw.cell (p := ⟨q, 1, none⟩) cl).trans c1; go_simp; try (with_reducible rfl)
  simp only [Act.put, List.setIfInBounds_toArray, List.set_cons_zero, List.set_cons_succ]
  refine AtE.one (i := 5) rfl (by kernel_rfl) (fun K hK => ?_)
  obtain ⟨Z, hrun, hmZ, huZ, -⟩ := run_drop (P := Try.prog) Try.underlying52 pair_key (HY.out.2.2.2.2.ext hHeld) c.key 0 64
  unfold enc2 PrC.key at hrun
  go_simp
  refine hK.out _ _ (fun h => absurd rfl h) (fun _ => ?_)
  clear hK K
  refine AtE.done (by kernel_rfl) ?_
  rw [dropIn_last HK.out] at hmZ
  go_wp2
  go_ret
  obtain ⟨a1, a2, a3, a4, a5⟩ := HY.out
  refine ⟨rfl, v', HS.out.drop (a1.ext hHeld) (ownsRow_keep a2 (Upd.of_ext (S := fun _ => False) hHeld) (fun _ _ h => h)) (a3.trans (Upd.of_ext hHeld)) a4 hmZ huZ, ?_, a4⟩
  exact ((a3.trans (Upd.of_ext hHeld)).mono (fun k _ hk => .inl hk)).trans (huZ.mono (fun k _ hk => .inr (.inr hk)))

theorem SdC.growTo {w w1 w2 : World} {p m : Nat} {v : Value} {cs : List PrC} {c : PrC} {en lv : Int} {ts : List Twg} {u : Value} (h : SdC w p v m (cs ++ [c])) (hb : Below w.heap.size w w1) (hr : RowT w1 u ts)
    (hm : MapAt w2 m enc2 (entP cs ++ [(c.key, .agg #[.bool true, .int .i64 en, .int .i64 lv, u])])) (hu2 : Upd (· = m) w1 w2) : SdC w2 p v m (cs ++ [⟨{ c.p with has := true, end_ := en, level := lv, tree := ts }, u⟩]) := by
  have h1 := h.ext hb
  have hT : ∀ {x : Value} {ts}, RowT w1 x ts → RowT w2 x ts := fun ht => ht.keep hu2 (fun k hk e => by
    subst e
    obtain ⟨cur, hb'⟩ := own_blk ht hk
    exact h1.map.ne_cells hb' rfl)
  refine ⟨h1.blk.keep hu2 h.pm, ?_, ?_, ?_, ?_⟩
  · have := ownsRow_keep h1.row hu2 (fun k hk e => h1.own_nm (by rw [hk, e]))
    rw [rowP_snoc, List.length_append] at this ⊢
    exact this
  · rw [entP_snoc]; exact hm
  · intro d hd
    rcases List.mem_append.1 hd with hd | hd
    · exact hT (h1.trees d (List.mem_append_left _ hd))
    · obtain rfl : d = _ := by simpa using hd
      exact hT hr
  · have := h.apart
    rw [List.map_append] at this ⊢
    exact this

set_option maxRecDepth 100000 in
set_option maxHeartbeats 1600000 in
theorem sgrow1_any (p m : Nat) (v : Value) (cs : List PrC) (c : PrC) (en lv : Int) (tv : Value) (ts : List Twg) (b1 b2 : Nat) (w : World) (hs : SdC w p v m (cs ++ [c])) (hb1 : Blk w b1 25 #[.pointer (some ⟨p, 0, none⟩)])
    (hb2 : Blk w b2 42 #[.int .i64 en, .int .i64 lv, tv]) (ht : Twgs w tv ts) (hn : ts.length ≤ 1000000) :
    Calls Try.prog 25 #[.agg #[.int .i64 c.p.rule, .int .i64 c.p.place], .pointer (some ⟨b1, 0, none⟩), .pointer (some ⟨b2, 0, none⟩)] w fun e w' =>
      (furtherB c.p en lv = false → e = .returned (.int .i64 2) ∧ Below w.heap.size w w') ∧
      (furtherB c.p en lv = true → e = .returned (.int .i64 0) ∧ ∃ u, SdC w' p v m (cs ++ [⟨{ c.p with has := true, end_ := en, level := lv, tree := ts }, u⟩]) ∧ Upd (SCore p v m) w w' ∧ ∀ k, u.ownBlock = some k → w.heap.size ≤ k) := by
  have hp := hs.blk.lt
  obtain ⟨At, ct, hct⟩ := (hs.trees c (by simp)).form
  obtain ⟨Ax, cx, rfl, _⟩ := ht.form
  have hz : ∀ w, (zeroValue 66).run Try.prog w = .ok (.agg #[.bool false, .int .i64 0, .int .i64 0, .slice none 0 0]) w := fun _ => by kernel_rfl
  have HL := Lib.hid (fun W (hb : Below w.heap.size w W) => run_look Try.underlying52 pair_key (hs.ext hb).map hz c.key false)
  have HK := Lib.hid hs.last_not
  rw [entP_snoc, getIn_last HK.out] at HL
  have HE : Hid (∀ W, Below w.heap.size w W → Sem.run Try.prog (Instr.lookup 52 (.map (some m)) (.agg #[.int .i64 c.p.rule, .int .i64 c.p.place]) false) W = .ok (.agg #[.bool c.p.has, .int .i64 c.p.end_, .int .i64 c.p.level, .slice At c.p.tree.length ct]) W) := Lib.hid (fun W hb => by
    have := HL.out W hb
    unfold PrC.val at this
    rw [← hct]; exact this)
  have HS := Lib.hid hs
  have HF := Lib.hid (fun W => further_any c.p en lv (.slice At c.p.tree.length ct) (.slice Ax ts.length cx) W)
  have hB0 := Blk.new w 64 #[.int .i64 c.p.rule, .int .i64 c.p.place]
  have hW := (ext_refl w).alloc (Nat.le_refl _) (.cells #[.int .i64 c.p.rule, .int .i64 c.p.place] 64)
  have HC := Lib.hid (fun W (h : Below w.heap.size w W) => copied_any en lv (.slice Ax ts.length cx) ts W (ht.of_cells (fun a u ha => (h.cell (World.block_lt_of_cell? w a ha)).trans ha)) hn)
  have d1 := (hs.ext hW).c1
  have e1 := (hb1.ext hW).cell 0
  have f0 := (hb2.ext hW).cell 0
  have f1 := (hb2.ext hW).cell 1
  have f2 := (hb2.ext hW).cell 2
  have c0 := hB0.cell 0
  have c1 := hB0.cell 1
  have cl := hB0.lt
  have el := (hb1.ext hW).lt
  have fl := (hb2.ext hW).lt
  have dl := (hs.ext hW).blk.lt
  have HW := Lib.hid hW
  generalize hfb : furtherB c.p en lv = fb at *
  have HFB := Lib.hid hfb
  obtain ⟨q, hq⟩ : ∃ q, q = w.heap.size := ⟨_, rfl⟩
  have HQQ := Lib.hid hq
  clear hs HL hct hb1 hb2 ht hB0 hW hfb
  go_enter Try.func25, Try.ntmps25
  go_wp2
  rw [← hq] at c0 c1 cl ⊢
  clear hq
  generalize w.alloc (.cells #[.int .i64 c.p.rule, .int .i64 c.p.place] 64) = W at *
  refine AtE.start (S := fun w' => Below W.heap.size W w') 7 (by kernel_rfl) (by kernel_rfl) (by exact (ext_refl W).drew) (fun hHeld => ?_)
  refine AtE.take (i := 0) (v := ?_) rfl (by kernel_rfl) (by kernel_rfl) (by kernel_rfl) (fun _ _ _ h => h) (by decide) (Or.inl ⟨by rfl, ?_⟩) hHeld ?_
  rotate_left
  · intro wH hSw; have k1 := (hSw.cell (p := ⟨p, 1, none⟩) dl).trans d1; have k2 := (hSw.cell (p := ⟨q, 0, none⟩) cl).trans c0; have k3 := (hSw.cell (p := ⟨q, 1, none⟩) cl).trans c1; have k4 := (hSw.cell (p := ⟨b1, 0, none⟩) el).trans e1; have hlk := HE.out _ (ext_trans HW.out hSw); go_simp; try (with_reducible rfl)
  simp only [Act.put, List.setIfInBounds_toArray, List.set_cons_zero, List.set_cons_succ]
  refine AtE.take (i := 1) (v := ?_) rfl (by kernel_rfl) (by kernel_rfl) (by kernel_rfl) (fun _ _ _ h => h) (by decide) (Or.inl ⟨by rfl, ?_⟩) hHeld ?_
  rotate_left
  · intro wH hSw; have k1 := (hSw.cell (p := ⟨p, 1, none⟩) dl).trans d1; have k2 := (hSw.cell (p := ⟨q, 0, none⟩) cl).trans c0; have k3 := (hSw.cell (p := ⟨q, 1, none⟩) cl).trans c1; have k4 := (hSw.cell (p := ⟨b1, 0, none⟩) el).trans e1; have hlk := HE.out _ (ext_trans HW.out hSw); go_simp; try (with_reducible rfl)
  simp only [Act.put, List.setIfInBounds_toArray, List.set_cons_zero, List.set_cons_succ]
  refine AtE.take (i := 2) (v := ?_) rfl (by kernel_rfl) (by kernel_rfl) (by kernel_rfl) (fun _ _ _ h => h) (by decide) (Or.inl ⟨by rfl, ?_⟩) hHeld ?_
  rotate_left
  · intro wH hSw; have k1 := (hSw.cell (p := ⟨p, 1, none⟩) dl).trans d1; have k2 := (hSw.cell (p := ⟨q, 0, none⟩) cl).trans c0; have k3 := (hSw.cell (p := ⟨q, 1, none⟩) cl).trans c1; have k4 := (hSw.cell (p := ⟨b1, 0, none⟩) el).trans e1; have hlk := HE.out _ (ext_trans HW.out hSw); go_simp; try (with_reducible rfl)
  simp only [Act.put, List.setIfInBounds_toArray, List.set_cons_zero, List.set_cons_succ]
  refine AtE.take (i := 3) (v := ?_) rfl (by kernel_rfl) (by kernel_rfl) (by kernel_rfl) (fun _ _ _ h => h) (by decide) (Or.inl ⟨by rfl, ?_⟩) hHeld ?_
  rotate_left
  · intro wH hSw; have k1 := (hSw.cell (p := ⟨p, 1, none⟩) dl).trans d1; have k2 := (hSw.cell (p := ⟨q, 0, none⟩) cl).trans c0; have k3 := (hSw.cell (p := ⟨q, 1, none⟩) cl).trans c1; have k4 := (hSw.cell (p := ⟨b1, 0, none⟩) el).trans e1; have hlk := HE.out _ (ext_trans HW.out hSw); go_simp; try (with_reducible rfl)
  simp only [Act.put, List.setIfInBounds_toArray, List.set_cons_zero, List.set_cons_succ]
  refine AtE.take (i := 4) (v := ?_) rfl (by kernel_rfl) (by kernel_rfl) (by kernel_rfl) (fun _ _ _ h => h) (by decide) (Or.inl ⟨by rfl, ?_⟩) hHeld ?_
  rotate_left
  · intro wH hSw; have k1 := (hSw.cell (p := ⟨p, 1, none⟩) dl).trans d1; have k2 := (hSw.cell (p := ⟨q, 0, none⟩) cl).trans c0; have k3 := (hSw.cell (p := ⟨q, 1, none⟩) cl).trans c1; have k4 := (hSw.cell (p := ⟨b1, 0, none⟩) el).trans e1; have hlk := HE.out _ (ext_trans HW.out hSw); go_simp; try (with_reducible rfl)
  simp only [Act.put, List.setIfInBounds_toArray, List.set_cons_zero, List.set_cons_succ]
  refine AtE.take (i := 5) (v := ?_) rfl (by kernel_rfl) (by kernel_rfl) (by kernel_rfl) (fun _ _ _ h => h) (by decide) (Or.inl ⟨by rfl, ?_⟩) hHeld ?_
  rotate_left
  · intro wH hSw; have k1 := (hSw.cell (p := ⟨p, 1, none⟩) dl).trans d1; have k2 := (hSw.cell (p := ⟨q, 0, none⟩) cl).trans c0; have k3 := (hSw.cell (p := ⟨q, 1, none⟩) cl).trans c1; have k4 := (hSw.cell (p := ⟨b1, 0, none⟩) el).trans e1; have hlk := HE.out _ (ext_trans HW.out hSw); go_simp; try (with_reducible rfl)
  simp only [Act.put, List.setIfInBounds_toArray, List.set_cons_zero, List.set_cons_succ]
  refine AtE.take (i := 6) (v := ?_) rfl (by kernel_rfl) (by kernel_rfl) (by kernel_rfl) (fun _ _ _ h => h) (by decide) (Or.inl ⟨by rfl, ?_⟩) hHeld ?_
  rotate_left
  · intro wH hSw; have k1 := (hSw.cell (p := ⟨p, 1, none⟩) dl).trans d1; have k2 := (hSw.cell (p := ⟨q, 0, none⟩) cl).trans c0; have k3 := (hSw.cell (p := ⟨q, 1, none⟩) cl).trans c1; have k4 := (hSw.cell (p := ⟨b1, 0, none⟩) el).trans e1; have hlk := HE.out _ (ext_trans HW.out hSw); go_simp; try (with_reducible rfl)
  simp only [Act.put, List.setIfInBounds_toArray, List.set_cons_zero, List.set_cons_succ]
  refine AtE.one (i := 7) rfl (by kernel_rfl) (fun K hK => ?_)
  go_simp
  refine hK.out _ _ (fun h => absurd rfl h) (fun _ => ?_)
  clear hK K
  refine AtE.done (by kernel_rfl) ?_
  have c0' := (hHeld.cell (p := ⟨q, 0, none⟩) cl).trans c0
  have c1' := (hHeld.cell (p := ⟨q, 1, none⟩) cl).trans c1
  have d1' := (hHeld.cell (p := ⟨p, 1, none⟩) dl).trans d1
  have e1' := (hHeld.cell (p := ⟨b1, 0, none⟩) el).trans e1
  have f0' := (hHeld.cell (p := ⟨b2, 0, none⟩) fl).trans f0
  have f1' := (hHeld.cell (p := ⟨b2, 1, none⟩) fl).trans f1
  have f2' := (hHeld.cell (p := ⟨b2, 2, none⟩) fl).trans f2
  have HH := Lib.hid hHeld
  clear hHeld
  have xl : q < W.drew.heap.size ∧ p < W.drew.heap.size ∧ b1 < W.drew.heap.size ∧ b2 < W.drew.heap.size := ⟨cl, dl, el, fl⟩
  clear c0 c1 d1 e1 f0 f1 f2 cl dl el fl
  have hdr := HH.out.size
  generalize W.drew = X at *
  obtain ⟨cl, dl, el, fl⟩ := xl
  clear hdr
  cases fb with
  | false =>
    go_wp2_with (first
      | (go_at_call 26; refine (HF.out _).mono ?_; rintro e Y ⟨rfl, hY⟩))
    go_ret
    exact ⟨rfl, ext_trans HW.out (ext_trans HH.out hY)⟩
  | true =>
    go_wp2_with (first
      | (go_at_call 26; refine (HF.out _).mono ?_; rintro e Y ⟨rfl, hY⟩))
    have c0 := (hY.cell (p := ⟨q, 0, none⟩) cl).trans c0'
    have c1 := (hY.cell (p := ⟨q, 1, none⟩) cl).trans c1'
    have d1 := (hY.cell (p := ⟨p, 1, none⟩) dl).trans d1'
    have e1 := (hY.cell (p := ⟨b1, 0, none⟩) el).trans e1'
    have f0 := (hY.cell (p := ⟨b2, 0, none⟩) fl).trans f0'
    have f1 := (hY.cell (p := ⟨b2, 1, none⟩) fl).trans f1'
    have f2 := (hY.cell (p := ⟨b2, 2, none⟩) fl).trans f2'
    have cl' := Nat.lt_of_lt_of_le cl hY.size
    have dl' := Nat.lt_of_lt_of_le dl hY.size
    have el' := Nat.lt_of_lt_of_le el hY.size
    have fl' := Nat.lt_of_lt_of_le fl hY.size
    have HY := Lib.hid (ext_trans HW.out (ext_trans HH.out hY))
    clear c0' c1' d1' e1' f0' f1' f2' cl dl el fl hY
    refine AtE.start (S := fun w' => Below Y.heap.size Y w') 8 (by kernel_rfl) (by kernel_rfl) (by exact (ext_refl Y).drew) (fun hHeld => ?_)
    refine AtE.take (i := 0) (v := ?_) rfl (by kernel_rfl) (by kernel_rfl) (by kernel_rfl) (fun _ _ _ h => h) (by decide) (Or.inl ⟨by rfl, ?_⟩) hHeld ?_
    rotate_left
    · intro wH hSw; have k1 := (hSw.cell (p := ⟨p, 1, none⟩) dl').trans d1; have k2 := (hSw.cell (p := ⟨q, 0, none⟩) cl').trans c0; have k3 := (hSw.cell (p := ⟨q, 1, none⟩) cl').trans c1; have k4 := (hSw.cell (p := ⟨b1, 0, none⟩) el').trans e1; have k5 := (hSw.cell (p := ⟨b2, 0, none⟩) fl').trans f0; have k6 := (hSw.cell (p := ⟨b2, 1, none⟩) fl').trans f1; have k7 := (hSw.cell (p := ⟨b2, 2, none⟩) fl').trans f2; go_simp; try (with_reducible rfl)
    simp only [Act.put, List.setIfInBounds_toArray, List.set_cons_zero, List.set_cons_succ]
    refine AtE.take (i := 1) (v := ?_) rfl (by kernel_rfl) (by kernel_rfl) (by kernel_rfl) (fun _ _ _ h => h) (by decide) (Or.inl ⟨by rfl, ?_⟩) hHeld ?_
    rotate_left
    · intro wH hSw; have k1 := (hSw.cell (p := ⟨p, 1, none⟩) dl').trans d1; have k2 := (hSw.cell (p := ⟨q, 0, none⟩) cl').trans c0; have k3 := (hSw.cell (p := ⟨q, 1, none⟩) cl').trans c1; have k4 := (hSw.cell (p := ⟨b1, 0, none⟩) el').trans e1; have k5 := (hSw.cell (p := ⟨b2, 0, none⟩) fl').trans f0; have k6 := (hSw.cell (p := ⟨b2, 1, none⟩) fl').trans f1; have k7 := (hSw.cell (p := ⟨b2, 2, none⟩) fl').trans f2; go_simp; try (with_reducible rfl)
    simp only [Act.put, List.setIfInBounds_toArray, List.set_cons_zero, List.set_cons_succ]
    refine AtE.take (i := 2) (v := ?_) rfl (by kernel_rfl) (by kernel_rfl) (by kernel_rfl) (fun _ _ _ h => h) (by decide) (Or.inl ⟨by rfl, ?_⟩) hHeld ?_
    rotate_left
    · intro wH hSw; have k1 := (hSw.cell (p := ⟨p, 1, none⟩) dl').trans d1; have k2 := (hSw.cell (p := ⟨q, 0, none⟩) cl').trans c0; have k3 := (hSw.cell (p := ⟨q, 1, none⟩) cl').trans c1; have k4 := (hSw.cell (p := ⟨b1, 0, none⟩) el').trans e1; have k5 := (hSw.cell (p := ⟨b2, 0, none⟩) fl').trans f0; have k6 := (hSw.cell (p := ⟨b2, 1, none⟩) fl').trans f1; have k7 := (hSw.cell (p := ⟨b2, 2, none⟩) fl').trans f2; go_simp; try (with_reducible rfl)
    simp only [Act.put, List.setIfInBounds_toArray, List.set_cons_zero, List.set_cons_succ]
    refine AtE.take (i := 3) (v := ?_) rfl (by kernel_rfl) (by kernel_rfl) (by kernel_rfl) (fun _ _ _ h => h) (by decide) (Or.inl ⟨by rfl, ?_⟩) hHeld ?_
    rotate_left
    · intro wH hSw; have k1 := (hSw.cell (p := ⟨p, 1, none⟩) dl').trans d1; have k2 := (hSw.cell (p := ⟨q, 0, none⟩) cl').trans c0; have k3 := (hSw.cell (p := ⟨q, 1, none⟩) cl').trans c1; have k4 := (hSw.cell (p := ⟨b1, 0, none⟩) el').trans e1; have k5 := (hSw.cell (p := ⟨b2, 0, none⟩) fl').trans f0; have k6 := (hSw.cell (p := ⟨b2, 1, none⟩) fl').trans f1; have k7 := (hSw.cell (p := ⟨b2, 2, none⟩) fl').trans f2; go_simp; try (with_reducible rfl)
    simp only [Act.put, List.setIfInBounds_toArray, List.set_cons_zero, List.set_cons_succ]
    refine AtE.take (i := 4) (v := ?_) rfl (by kernel_rfl) (by kernel_rfl) (by kernel_rfl) (fun _ _ _ h => h) (by decide) (Or.inl ⟨by rfl, ?_⟩) hHeld ?_
    rotate_left
    · intro wH hSw; have k1 := (hSw.cell (p := ⟨p, 1, none⟩) dl').trans d1; have k2 := (hSw.cell (p := ⟨q, 0, none⟩) cl').trans c0; have k3 := (hSw.cell (p := ⟨q, 1, none⟩) cl').trans c1; have k4 := (hSw.cell (p := ⟨b1, 0, none⟩) el').trans e1; have k5 := (hSw.cell (p := ⟨b2, 0, none⟩) fl').trans f0; have k6 := (hSw.cell (p := ⟨b2, 1, none⟩) fl').trans f1; have k7 := (hSw.cell (p := ⟨b2, 2, none⟩) fl').trans f2; go_simp; try (with_reducible rfl)
    simp only [Act.put, List.setIfInBounds_toArray, List.set_cons_zero, List.set_cons_succ]
    refine AtE.take (i := 5) (v := ?_) rfl (by kernel_rfl) (by kernel_rfl) (by kernel_rfl) (fun _ _ _ h => h) (by decide) (Or.inl ⟨by rfl, ?_⟩) hHeld ?_
    rotate_left
    · intro wH hSw; have k1 := (hSw.cell (p := ⟨p, 1, none⟩) dl').trans d1; have k2 := (hSw.cell (p := ⟨q, 0, none⟩) cl').trans c0; have k3 := (hSw.cell (p := ⟨q, 1, none⟩) cl').trans c1; have k4 := (hSw.cell (p := ⟨b1, 0, none⟩) el').trans e1; have k5 := (hSw.cell (p := ⟨b2, 0, none⟩) fl').trans f0; have k6 := (hSw.cell (p := ⟨b2, 1, none⟩) fl').trans f1; have k7 := (hSw.cell (p := ⟨b2, 2, none⟩) fl').trans f2; go_simp; try (with_reducible rfl)
    simp only [Act.put, List.setIfInBounds_toArray, List.set_cons_zero, List.set_cons_succ]
    refine AtE.one (i := 6) rfl (by kernel_rfl) (fun K hK => ?_)
    go_simp
    refine (HC.out _ (ext_trans HY.out hHeld)).mono ?_
    rintro e Z ⟨u, rfl, hu, hun, hbZ⟩
    obtain ⟨Au, cu, rfl⟩ := hu.form
    refine hK.out _ _ (fun _ => ext_trans hHeld hbZ) (fun hHeld' => ?_)
    have hHeldZ := hHeld' (by decide)
    have HU := Lib.hid (And.intro hu hun)
    clear hK K hHeld' hHeld hbZ hu hun
    have hHeld := hHeldZ
    clear hHeldZ
    refine AtE.take (i := 7) (v := ?_) rfl (by kernel_rfl) (by kernel_rfl) (by kernel_rfl) (fun _ _ _ h => h) (by decide) (Or.inl ⟨by rfl, ?_⟩) hHeld ?_
    rotate_left
    · intro wH hSw; have k1 := (hSw.cell (p := ⟨p, 1, none⟩) dl').trans d1; have k2 := (hSw.cell (p := ⟨q, 0, none⟩) cl').trans c0; have k3 := (hSw.cell (p := ⟨q, 1, none⟩) cl').trans c1; have k4 := (hSw.cell (p := ⟨b1, 0, none⟩) el').trans e1; have k5 := (hSw.cell (p := ⟨b2, 0, none⟩) fl').trans f0; have k6 := (hSw.cell (p := ⟨b2, 1, none⟩) fl').trans f1; have k7 := (hSw.cell (p := ⟨b2, 2, none⟩) fl').trans f2; go_simp; try (with_reducible rfl)
    simp only [Act.put, List.setIfInBounds_toArray, List.set_cons_zero, List.set_cons_succ]
    refine AtE.one (i := 8) rfl (by kernel_rfl) (fun K hK => ?_)
    have hmZ := ((HS.out.ext (ext_trans HY.out hHeld)).map)
    rw [entP_snoc] at hmZ
    obtain ⟨V, hrun, hmV, huV, -⟩ := run_write (P := Try.prog) Try.underlying52 pair_key hmZ c.key (.agg #[.bool true, .int .i64 en, .int .i64 lv, .slice Au ts.length cu])
    unfold enc2 PrC.key at hrun
    go_simp
    refine hK.out _ _ (fun h => absurd rfl h) (fun _ => ?_)
    clear hK K hmZ
    refine AtE.done (by kernel_rfl) ?_
    rw [putIn_last HK.out] at hmV
    go_wp2
    go_ret
    have hbZ := ext_trans HY.out hHeld
    refine ⟨rfl, _, HS.out.growTo hbZ HU.out.1 hmV huV, (Upd.of_ext hbZ).trans (huV.mono (fun k _ hk => .inr (.inr hk))), fun k hk => ?_⟩
    exact Nat.le_trans HY.out.size (HU.out.2 k hk)

/-- nothing is live -/
theorem send_none (p m : Nat) (v : Value) (f : Value) (w : World) (hs : SdC w p v m []) :
    Calls Try.prog 24 #[.pointer (some ⟨p, 0, none⟩), f] w fun e w' => e = .returned (.int .i64 5) ∧ Below w.heap.size w w' := by
  have HM := Lib.hid (made_any p m w hs.c1 hs.blk.lt)
  have HL := Lib.hid (slast_none p m v w hs)
  have hp := hs.blk.lt
  clear hs
  go_enter Try.func24, Try.ntmps24
  go_wp2_with (first
    | (go_at_call 21; refine HM.out.mono ?_; rintro e w1 ⟨rfl, rfl⟩)
    | (go_at_call 40; refine HL.out.mono ?_; rintro e w1 ⟨rfl, hb1⟩))
  go_ret
  exact ⟨rfl, hb1.trans ((ext_refl w1).mono hb1.size |>.alloc hb1.size _)⟩
set_option maxRecDepth 100000 in
set_option maxHeartbeats 800000 in
theorem send_lets (p m : Nat) (v : Value) (cs : List PrC) (c : PrC) (w : World) (hs : SdC w p v m (cs ++ [c])) :
    Calls Try.prog 24 #[.pointer (some ⟨p, 0, none⟩), .func (.func 28) #[.pointer (some ⟨p, 0, none⟩)] #[]] w fun e w' => e = .returned (.int .i64 0) ∧
      ∃ v', SdC w' p v' m cs ∧ Upd (SCore p v m) w w' ∧ v'.ownBlock = v.ownBlock := by
  have HM := Lib.hid (made_any p m w hs.c1 hs.blk.lt)
  have HL := Lib.hid (slast_some p m v cs c w hs)
  have hp := hs.blk.lt
  have HS := Lib.hid hs
  clear hs
  go_enter Try.func24, Try.ntmps24
  go_wp2_with (first
    | (go_at_call 21; refine HM.out.mono ?_; rintro e w1 ⟨rfl, rfl⟩)
    | (go_at_call 40; refine HL.out.mono ?_; rintro e w1 ⟨rfl, hb1⟩
       have HB := Lib.hid (ext_trans hb1 ((ext_refl w1).alloc (Nat.le_refl _) (.cells #[.int .i64 c.p.rule, .int .i64 c.p.place] 64)))
       clear hb1)
    | (go_at_call 28; refine (slets_any p m v cs c _ (HS.out.ext HB.out)).mono ?_; rintro e w2 ⟨rfl, v', h1, h2, h3⟩))
  go_ret
  exact ⟨rfl, v', h1, (Upd.of_ext HB.out).trans h2, h3⟩
set_option maxRecDepth 100000 in
set_option maxHeartbeats 800000 in
theorem send_grow (p m : Nat) (v : Value) (cs : List PrC) (c : PrC) (en lv : Int) (tv : Value) (ts : List Twg) (b1 b2 : Nat) (w : World) (hs : SdC w p v m (cs ++ [c])) (hb1 : Blk w b1 25 #[.pointer (some ⟨p, 0, none⟩)])
    (hb2 : Blk w b2 42 #[.int .i64 en, .int .i64 lv, tv]) (ht : Twgs w tv ts) (hn : ts.length ≤ 1000000) (P : Int → World → Prop)
    (h1 : furtherB c.p en lv = false → ∀ w', Below w.heap.size w w' → P 2 w')
    (h2 : furtherB c.p en lv = true → ∀ w' u, SdC w' p v m (cs ++ [⟨{ c.p with has := true, end_ := en, level := lv, tree := ts }, u⟩]) → Upd (SCore p v m) w w' → (∀ k, u.ownBlock = some k → w.heap.size ≤ k) → P 0 w') :
    Calls Try.prog 24 #[.pointer (some ⟨p, 0, none⟩), .func (.func 25) #[] #[.pointer (some ⟨b1, 0, none⟩), .pointer (some ⟨b2, 0, none⟩)]] w (RetI P) := by
  have HM := Lib.hid (made_any p m w hs.c1 hs.blk.lt)
  have HL := Lib.hid (slast_some p m v cs c w hs)
  have hp := hs.blk.lt
  have HS := Lib.hid hs
  have HB12 := Lib.hid (And.intro hb1 (And.intro hb2 ht))
  have HP := Lib.hid (And.intro h1 h2)
  clear hs hb1 hb2 ht h1 h2
  cases hf : furtherB c.p en lv with
  | false =>
    have HF := Lib.hid hf
    clear hf
    go_enter Try.func24, Try.ntmps24
    go_wp2_with (first
      | (go_at_call 21; refine HM.out.mono ?_; rintro e w1 ⟨rfl, rfl⟩)
      | (go_at_call 40; refine HL.out.mono ?_; rintro e w1 ⟨rfl, hb1⟩
         have HB := Lib.hid (ext_trans hb1 ((ext_refl w1).alloc (Nat.le_refl _) (.cells #[.int .i64 c.p.rule, .int .i64 c.p.place] 64)))
         clear hb1)
      | (go_at_call 25; refine (sgrow1_any p m v cs c en lv tv ts b1 b2 _ (HS.out.ext HB.out) (HB12.out.1.ext HB.out) (HB12.out.2.1.ext HB.out) (HB12.out.2.2.of_cells (fun a u ha => (HB.out.cell (World.block_lt_of_cell? w a ha)).trans ha)) hn).mono ?_
         rintro e w2 ⟨hg1, -⟩
         obtain ⟨rfl, hg⟩ := hg1 HF.out
         clear hg1))
    go_ret
    exact ⟨2, rfl, HP.out.1 HF.out _ (ext_trans HB.out hg)⟩
  | true =>
    have HF := Lib.hid hf
    clear hf
    go_enter Try.func24, Try.ntmps24
    go_wp2_with (first
      | (go_at_call 21; refine HM.out.mono ?_; rintro e w1 ⟨rfl, rfl⟩)
      | (go_at_call 40; refine HL.out.mono ?_; rintro e w1 ⟨rfl, hb1⟩
         have HB := Lib.hid (ext_trans hb1 ((ext_refl w1).alloc (Nat.le_refl _) (.cells #[.int .i64 c.p.rule, .int .i64 c.p.place] 64)))
         clear hb1)
      | (go_at_call 25; refine (sgrow1_any p m v cs c en lv tv ts b1 b2 _ (HS.out.ext HB.out) (HB12.out.1.ext HB.out) (HB12.out.2.1.ext HB.out) (HB12.out.2.2.of_cells (fun a u ha => (HB.out.cell (World.block_lt_of_cell? w a ha)).trans ha)) hn).mono ?_
         rintro e w2 ⟨-, hg1⟩
         obtain ⟨rfl, u, hg, hg2, hg3⟩ := hg1 HF.out
         clear hg1))
    go_ret
    exact ⟨0, rfl, HP.out.2 HF.out _ u hg ((Upd.of_ext HB.out).trans hg2) (fun k hk => Nat.le_trans HB.out.size (hg3 k hk))⟩

set_option maxRecDepth 100000 in
set_option maxHeartbeats 800000 in
theorem sEnd_none (p m : Nat) (v : Value) (w : World) (hs : SdC w p v m []) :
    Calls Try.prog 13 #[.pointer (some ⟨p, 0, none⟩)] w fun e w' => e = .returned (.int .i64 5) ∧ Below w.heap.size w w' := by
  have HE := Lib.hid (fun f => send_none p m v f w hs)
  clear hs
  go_enter Try.func13, Try.ntmps13
  go_wp2_with (first
    | (go_at_call 24; refine (HE.out _).mono ?_; rintro e w1 ⟨rfl, hb1⟩))
  go_ret
  exact ⟨rfl, hb1⟩
set_option maxRecDepth 100000 in
set_option maxHeartbeats 800000 in
theorem sEnd_some (p m : Nat) (v : Value) (cs : List PrC) (c : PrC) (w : World) (hs : SdC w p v m (cs ++ [c])) :
    Calls Try.prog 13 #[.pointer (some ⟨p, 0, none⟩)] w fun e w' => e = .returned (.int .i64 0) ∧
      ∃ v', SdC w' p v' m cs ∧ Upd (SCore p v m) w w' ∧ v'.ownBlock = v.ownBlock := by
  have HE := Lib.hid (send_lets p m v cs c w hs)
  clear hs
  go_enter Try.func13, Try.ntmps13
  go_wp2_with (first
    | (go_at_call 24; refine HE.out.mono ?_; rintro e w1 ⟨rfl, v', h1, h2, h3⟩))
  go_ret
  exact ⟨rfl, v', h1, h2, h3⟩
set_option maxRecDepth 100000 in
set_option maxHeartbeats 800000 in
theorem sGrow_none (p m : Nat) (v : Value) (en lv : Int) (A : Option Addr) (n k : Nat) (w : World) (hs : SdC w p v m []) :
    Calls Try.prog 11 #[.pointer (some ⟨p, 0, none⟩), .agg #[.int .i64 en, .int .i64 lv, .slice A n k]] w fun e w' => e = .returned (.int .i64 5) ∧ Below w.heap.size w w' := by
  have hW := ((ext_refl w).alloc (Nat.le_refl _) (.cells #[.pointer (some ⟨p, 0, none⟩)] 25)).alloc (by simp) (.cells #[.int .i64 en, .int .i64 lv, .slice A n k] 42)
  have HE := Lib.hid (fun f => send_none p m v f _ (hs.ext hW))
  have HW := Lib.hid hW
  clear hs hW
  go_enter Try.func11, Try.ntmps11
  go_wp2_with (first
    | (go_at_call 24; refine (HE.out _).mono ?_; rintro e w1 ⟨rfl, hb1⟩))
  go_ret
  exact ⟨rfl, ext_trans HW.out hb1⟩
set_option maxRecDepth 100000 in
set_option maxHeartbeats 800000 in
theorem sGrow_some (p m : Nat) (v : Value) (cs : List PrC) (c : PrC) (en lv : Int) (tv : Value) (ts : List Twg) (w : World) (hs : SdC w p v m (cs ++ [c])) (ht : Twgs w tv ts) (hn : ts.length ≤ 1000000) (P : Int → World → Prop)
    (h1 : furtherB c.p en lv = false → ∀ w', Below w.heap.size w w' → P 2 w')
    (h2 : furtherB c.p en lv = true → ∀ w' u, SdC w' p v m (cs ++ [⟨{ c.p with has := true, end_ := en, level := lv, tree := ts }, u⟩]) → Upd (SCore p v m) w w' → (∀ k, u.ownBlock = some k → w.heap.size ≤ k) → P 0 w') :
    Calls Try.prog 11 #[.pointer (some ⟨p, 0, none⟩), .agg #[.int .i64 en, .int .i64 lv, tv]] w (RetI P) := by
  obtain ⟨A, k, rfl, _⟩ := ht.form
  have hW := ((ext_refl w).alloc (Nat.le_refl _) (.cells #[.pointer (some ⟨p, 0, none⟩)] 25)).alloc (by simp) (.cells #[.int .i64 en, .int .i64 lv, .slice A ts.length k] 42)
  have hb1 := (Blk.new w 25 #[.pointer (some ⟨p, 0, none⟩)]).ext ((ext_refl _).alloc (Nat.le_refl _) (.cells #[.int .i64 en, .int .i64 lv, .slice A ts.length k] 42))
  have hb2 := Blk.at_ (w.alloc (.cells #[.pointer (some ⟨p, 0, none⟩)] 25)) 42 #[.int .i64 en, .int .i64 lv, .slice A ts.length k] (g := w.heap.size + 1) (by simp)
  have HE := Lib.hid (send_grow p m v cs c en lv (.slice A ts.length k) ts w.heap.size (w.heap.size + 1) _ (hs.ext hW) hb1 hb2 (ht.of_cells (fun a u ha => (hW.cell (World.block_lt_of_cell? w a ha)).trans ha)) hn P
    (fun hf w' hb => h1 hf w' (ext_trans hW hb)) (fun hf w' u g1 g2 g3 => h2 hf w' u g1 ((Upd.of_ext hW).trans g2) (fun k hk => Nat.le_trans hW.size (g3 k hk))))
  clear hs hb1 hb2 hW h1 h2 ht
  go_enter Try.func11, Try.ntmps11
  go_wp2_with (first
    | (go_at_call 24; refine HE.out.mono ?_; rintro e w1 ⟨r, rfl, hp⟩))
  go_ret
  exact ⟨r, rfl, hp⟩
end Go.Proofs.Ytchmlhceidociaa
