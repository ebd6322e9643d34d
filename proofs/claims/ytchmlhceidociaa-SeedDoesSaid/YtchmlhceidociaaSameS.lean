/- Both stores side by side: they are the same. -/
import Derived.Test.YtchmlhceidociaaRdU
import Derived.Test.YtchmlhceidociaaTwigR
import Derived.Deep.DeepCutAuto
import Derived.Test.YtchmlhceidociaaHeldB
namespace Go.Proofs.Ytchmlhceidociaa
set_option linter.unusedVariables false
set_option linter.unusedSimpArgs false
open Go.RowKit

/-- what is kept of the pairs: bounds -/
structure Bd (n : Nat) (l : List Pr) : Prop where
  len : l.length ≤ n
  pr : ∀ x ∈ l, x.tree.length ≤ 2000 ∧ -1099511627776 ≤ x.level ∧ x.level ≤ 1099511627776 ∧ -9223372036854775808 ≤ x.end_ ∧ x.end_ ≤ 1099511627776 + n
theorem cellq_oneCell (cs : List PrC) (h : ∀ c ∈ cs, ∃ A n k, c.tv = .slice A n k) : ∀ u ∈ rowQ cs, u.oneCell' = true := by
  intro u hu
  obtain ⟨t, ht, hu⟩ := List.mem_flatMap.1 hu
  obtain ⟨A, n, k, e⟩ := h t ht
  simp [PrC.cellq, e] at hu
  rcases hu with rfl | rfl | rfl | rfl | rfl | rfl <;> rfl
theorem readA_tree (l : List Pr) (r pl lv : Int) (h : ∀ x ∈ l, x.tree.length ≤ 2000) : (readA l r pl lv).1.tree.length ≤ 2000 := by
  unfold readA
  cases hf : l.find? (isP r pl) with
  | none => simp [zeroP]
  | some x =>
    dsimp only
    split
    · exact h x (List.mem_of_find?_eq_some hf)
    · simp [zeroP]

set_option maxRecDepth 100000 in
set_option maxHeartbeats 6400000 in
theorem same_any (p q n : Nat) (S R : Nat → Prop) (l : List Pr) (r pl lv : Int) (w : World) (hs : SS w p S l) (hr : RS w q R l) (hb : Bd n l) (hn : n ≤ 800) (hlv : -1099511627776 ≤ lv ∧ lv ≤ 1099511627776) :
    Calls Try.prog 18 #[.pointer (some ⟨p, 0, none⟩), .pointer (some ⟨q, 0, none⟩), .int .i64 r, .int .i64 pl, .int .i64 lv] w fun e w' =>
      e = .returned (.bool true) ∧ Below w.heap.size w w' := by
  have hlen := hb.len
  have HLEN := Lib.hid (fun W (h : Below w.heap.size w W) => len_uni S l p W (hs.ext h))
  have HLI := Lib.hid (fun W (h : Below w.heap.size w W) => live_uni S l pl p W (hs.ext h) (by omega))
  have HLR := Lib.hid (fun W (h : Below w.heap.size w W) => liveR_uni pl (hr.ext h) (by omega))
  have HLA := Lib.hid (fun W (h : Below w.heap.size w W) => last_uni S l p W (hs.ext h))
  have HRD := Lib.hid (fun W (h : Below w.heap.size w W) r pl lv => read_uni S l r pl lv p W (hs.ext h) (fun x hx => by have := (hb.pr x hx).1; omega))
  have HRR := Lib.hid (fun W (h : Below w.heap.size w W) r pl lv => readR_uni r pl lv (hr.ext h))
  have HTR := Lib.hid (fun r pl lv => readA_tree l r pl lv (fun x hx => (hb.pr x hx).1))
  obtain ⟨v, cs, hc, hl, -⟩ := hr
  have h0 := hc.c0
  have hq := hc.blk.lt
  obtain ⟨A, c, rfl, hcc, hm, hnil, hcells⟩ := hc.form
  unfold maxLen at hm
  have hlc : l.length = cs.length := by rw [← hl, prs_length]
  have HC := Lib.hid hc
  have HL := Lib.hid hl
  have HB := Lib.hid hb
  have e3 : ((cs.length : Int) != (cs.length : Int)) = false := by simp
  rw [hlc] at HLEN hlen
  clear hs hc hl hb hlc
  go_enter Try.func18, Try.ntmps18
  go_wp2
  refine AtE.start (S := fun w' => Below w.heap.size w w') 17 (by kernel_rfl) (by kernel_rfl) (by exact (ext_refl w).drew) (fun hHeld => ?_)
  refine AtE.take (i := 0) (v := ?_) rfl (by kernel_rfl) (by kernel_rfl) (by kernel_rfl) (fun _ _ _ h => h) (by decide) (Or.inl ⟨by rfl, ?_⟩) hHeld ?_
  rotate_left
  · intro wH hSw; have k0 := (hSw.cell (p := ⟨q, 0, none⟩) hq).trans h0; go_simp; try (with_reducible rfl)
  simp only [Act.put, List.setIfInBounds_toArray, List.set_cons_zero, List.set_cons_succ]
  refine AtE.take (i := 2) (v := ?_) rfl (by kernel_rfl) (by kernel_rfl) (by kernel_rfl) (fun _ _ _ h => h) (by decide) (Or.inl ⟨by rfl, ?_⟩) hHeld ?_
  rotate_left
  · intro wH hSw; have k0 := (hSw.cell (p := ⟨q, 0, none⟩) hq).trans h0; go_simp; try (with_reducible rfl)
  simp only [Act.put, List.setIfInBounds_toArray, List.set_cons_zero, List.set_cons_succ]
  refine AtE.take (i := 3) (v := ?_) rfl (by kernel_rfl) (by kernel_rfl) (by kernel_rfl) (fun _ _ _ h => h) (by decide) (Or.inl ⟨by rfl, ?_⟩) hHeld ?_
  rotate_left
  · intro wH hSw; have k0 := (hSw.cell (p := ⟨q, 0, none⟩) hq).trans h0; go_simp; try (with_reducible rfl)
  simp only [Act.put, List.setIfInBounds_toArray, List.set_cons_zero, List.set_cons_succ]
  refine AtE.take (i := 4) (v := ?_) rfl (by kernel_rfl) (by kernel_rfl) (by kernel_rfl) (fun _ _ _ h => h) (by decide) (Or.inl ⟨by rfl, ?_⟩) hHeld ?_
  rotate_left
  · intro wH hSw; have k0 := (hSw.cell (p := ⟨q, 0, none⟩) hq).trans h0; go_simp; try (with_reducible rfl)
  simp only [Act.put, List.setIfInBounds_toArray, List.set_cons_zero, List.set_cons_succ]
  refine AtE.take (i := 5) (v := ?_) rfl (by kernel_rfl) (by kernel_rfl) (by kernel_rfl) (fun _ _ _ h => h) (by decide) (Or.inl ⟨by rfl, ?_⟩) hHeld ?_
  rotate_left
  · intro wH hSw; have k0 := (hSw.cell (p := ⟨q, 0, none⟩) hq).trans h0; go_simp; try (with_reducible rfl)
  simp only [Act.put, List.setIfInBounds_toArray, List.set_cons_zero, List.set_cons_succ]
  refine AtE.take (i := 6) (v := ?_) rfl (by kernel_rfl) (by kernel_rfl) (by kernel_rfl) (fun _ _ _ h => h) (by decide) (Or.inl ⟨by rfl, ?_⟩) hHeld ?_
  rotate_left
  · intro wH hSw; have k0 := (hSw.cell (p := ⟨q, 0, none⟩) hq).trans h0; go_simp; try (with_reducible rfl)
  simp only [Act.put, List.setIfInBounds_toArray, List.set_cons_zero, List.set_cons_succ]
  refine AtE.one (i := 1) rfl (by kernel_rfl) (fun K hK => ?_)
  go_simp
  refine (HLEN.out _ hHeld).mono ?_
  rintro e w1 ⟨rfl, rfl⟩
  refine hK.out _ _ (fun _ => hHeld) (fun hHeld' => ?_)
  clear hK K hHeld'
  refine AtE.take (i := 7) (v := ?_) rfl (by kernel_rfl) (by kernel_rfl) (by kernel_rfl) (fun _ _ _ h => h) (by decide) (Or.inl ⟨by rfl, ?_⟩) hHeld ?_
  rotate_left
  · intro wH hSw; have k0 := (hSw.cell (p := ⟨q, 0, none⟩) hq).trans h0; go_simp; try (with_reducible rfl)
  simp only [Act.put, List.setIfInBounds_toArray, List.set_cons_zero, List.set_cons_succ]
  refine AtE.take (i := 8) (v := ?_) rfl (by kernel_rfl) (by kernel_rfl) (by kernel_rfl) (fun _ _ _ h => h) (by decide) (Or.inl ⟨by rfl, ?_⟩) hHeld ?_
  rotate_left
  · intro wH hSw; have k0 := (hSw.cell (p := ⟨q, 0, none⟩) hq).trans h0; go_simp; try (with_reducible rfl)
  simp only [Act.put, List.setIfInBounds_toArray, List.set_cons_zero, List.set_cons_succ]
  refine AtE.take (i := 9) (v := ?_) rfl (by kernel_rfl) (by kernel_rfl) (by kernel_rfl) (fun _ _ _ h => h) (by decide) (Or.inl ⟨by rfl, ?_⟩) hHeld ?_
  rotate_left
  · intro wH hSw; have k0 := (hSw.cell (p := ⟨q, 0, none⟩) hq).trans h0; go_simp; try (with_reducible rfl)
  simp only [Act.put, List.setIfInBounds_toArray, List.set_cons_zero, List.set_cons_succ]
  refine AtE.take (i := 10) (v := ?_) rfl (by kernel_rfl) (by kernel_rfl) (by kernel_rfl) (fun _ _ _ h => h) (by decide) (Or.inl ⟨by rfl, ?_⟩) hHeld ?_
  rotate_left
  · intro wH hSw; have k0 := (hSw.cell (p := ⟨q, 0, none⟩) hq).trans h0; go_simp; try (with_reducible rfl)
  simp only [Act.put, List.setIfInBounds_toArray, List.set_cons_zero, List.set_cons_succ]
  refine AtE.take (i := 12) (v := ?_) rfl (by kernel_rfl) (by kernel_rfl) (by kernel_rfl) (fun _ _ _ h => h) (by decide) (Or.inl ⟨by rfl, ?_⟩) hHeld ?_
  rotate_left
  · intro wH hSw; have k0 := (hSw.cell (p := ⟨q, 0, none⟩) hq).trans h0; go_simp; try (with_reducible rfl)
  simp only [Act.put, List.setIfInBounds_toArray, List.set_cons_zero, List.set_cons_succ]
  refine AtE.take (i := 13) (v := ?_) rfl (by kernel_rfl) (by kernel_rfl) (by kernel_rfl) (fun _ _ _ h => h) (by decide) (Or.inl ⟨by rfl, ?_⟩) hHeld ?_
  rotate_left
  · intro wH hSw; have k0 := (hSw.cell (p := ⟨q, 0, none⟩) hq).trans h0; go_simp; try (with_reducible rfl)
  simp only [Act.put, List.setIfInBounds_toArray, List.set_cons_zero, List.set_cons_succ]
  refine AtE.one (i := 11) rfl (by kernel_rfl) (fun K hK => ?_)
  go_simp
  refine (HLI.out _ hHeld).mono ?_
  rintro e w2 ⟨u, rfl, hu, hb2⟩
  refine hK.out _ _ (fun _ => ext_trans hHeld hb2) (fun hHeld' => ?_)
  have HU := Lib.hid hu
  clear hHeld hb2 hu
  have hHeld := hHeld' (by decide)
  clear hK K hHeld'
  refine AtE.one (i := 14) rfl (by kernel_rfl) (fun K hK => ?_)
  go_simp
  refine (HLR.out _ hHeld).mono ?_
  rintro e w3 ⟨u', rfl, hu', hb3⟩
  refine hK.out _ _ (fun _ => ext_trans hHeld hb3) (fun hHeld' => ?_)
  have HU' := Lib.hid (And.intro hu' (ownsRow_keep (S := fun _ => False) HU.out (Upd.of_ext hb3) (fun _ _ h => h)))
  clear hHeld hb3 hu'
  have hHeld := hHeld' (by decide)
  clear hK K hHeld'
  refine AtE.one (i := 15) rfl (by kernel_rfl) (fun K hK => ?_)
  go_simp
  have hi : ∀ v, w3.ownsRow 0 3 1 v (liveL l pl).length ((sortL (liveL l pl)).map (Value.int .i64)) → Ints w3 v (sortL (liveL l pl)) := fun v h => by have := Reads.of_own h; unfold Ints; rw [sortL_length]; exact this
  refine (sameInts_any (sortL (liveL l pl)) (sortL (liveL l pl)) _ _ _ (hi _ HU'.out.2) (hi _ HU'.out.1)).mono ?_
  rintro e w4 ⟨rfl, hdr⟩
  rw [decide_eq_true rfl]
  refine hK.out _ _ (fun _ => ext_trans hHeld (drew_ext hdr)) (fun hHeld' => ?_)
  clear hHeld hdr hi
  have hHeld := hHeld' (by decide)
  clear hK K hHeld'
  refine AtE.take (i := 16) (v := ?_) rfl (by kernel_rfl) (by kernel_rfl) (by kernel_rfl) (fun _ _ _ h => h) (by decide) (Or.inl ⟨by rfl, ?_⟩) hHeld ?_
  rotate_left
  · intro wH hSw; have k0 := (hSw.cell (p := ⟨q, 0, none⟩) hq).trans h0; go_simp; try (with_reducible rfl)
  simp only [Act.put, List.setIfInBounds_toArray, List.set_cons_zero, List.set_cons_succ]
  refine AtE.one (i := 17) rfl (by kernel_rfl) (fun K hK => ?_)
  go_simp
  refine hK.out _ _ (fun h => absurd rfl h) (fun _ => ?_)
  clear hK K
  refine AtE.done (by kernel_rfl) ?_
  clear HLI HLR HU HU' HLEN
  have HW4 := Lib.hid hHeld
  clear hHeld
  go_wp2_with (first
    | (go_at_call 35; refine (HLA.out _ HW4.out).mono ?_; rintro e w5 ⟨rfl, hb5⟩))
  have HW5 := Lib.hid (ext_trans HW4.out hb5)
  have h0' := (HW5.out.cell (p := ⟨q, 0, none⟩) hq).trans h0
  have hq5 := Nat.lt_of_lt_of_le hq HW5.out.size
  clear hb5 HLA
  have HLST := Lib.hid (show (cs = [] ∧ lastA l = (0, 0, false)) ∨ (∃ (N : Nat) (x : PrC) (g : Nat), cs.length = N + 1 ∧ lastA l = (x.p.rule, x.p.place, true) ∧ A = some ⟨g, 0, none⟩ ∧ g < w.heap.size ∧ w.cell? ⟨g, N * 6, none⟩ = some (.int .i64 x.p.rule) ∧ w.cell? ⟨g, N * 6 + 1, none⟩ = some (.int .i64 x.p.place)) from by
    have hl := HL.out
    rcases List.eq_nil_or_concat cs with h | ⟨a, b, h⟩
    · left
      subst h
      exact ⟨rfl, by rw [← hl]; rfl⟩
    · right
      rw [List.concat_eq_append] at h
      subst h
      obtain ⟨g, cur, hA, _, hg, hcell⟩ := hcells (by simp)
      obtain ⟨g0, g1, _⟩ := hcell a.length (by simp)
      have hx : (a ++ [b])[a.length]'(by simp) = b := by simp
      rw [hx] at g0 g1
      exact ⟨a.length, b, g, by simp, by rw [← hl, prs_snoc]; simp [lastA], hA, hg, g0, g1⟩)
  clear hcells hnil
  go_cut [101] from 45 to 101 (fun b wx => b = .bool false ∧ Below w.heap.size w wx)
  case first =>
    generalize lastA l = la at *
    rcases HLST.out with ⟨hn0, rfl⟩ | ⟨N, x, g, hN, rfl, hA, hg, g0, g1⟩
    · subst hn0
      refine AtE.start (S := fun w' => Below w5.heap.size w5 w') 56 (by kernel_rfl) (by kernel_rfl) (by exact (ext_refl w5).drew) (fun hHeld => ?_)
      refine AtE.take (i := 0) (v := ?_) rfl (by kernel_rfl) (by kernel_rfl) (by kernel_rfl) (fun _ _ _ h => h) (by decide) (Or.inl ⟨by rfl, ?_⟩) hHeld ?_
      rotate_left
      · intro wH hSw; have k0 := (hSw.cell (p := ⟨q, 0, none⟩) hq5).trans h0'; go_simp; try (with_reducible rfl)
      simp only [Act.put, List.setIfInBounds_toArray, List.set_cons_zero, List.set_cons_succ]
      refine AtE.take (i := 1) (v := ?_) rfl (by kernel_rfl) (by kernel_rfl) (by kernel_rfl) (fun _ _ _ h => h) (by decide) (Or.inl ⟨by rfl, ?_⟩) hHeld ?_
      rotate_left
      · intro wH hSw; have k0 := (hSw.cell (p := ⟨q, 0, none⟩) hq5).trans h0'; go_simp; try (with_reducible rfl)
      simp only [Act.put, List.setIfInBounds_toArray, List.set_cons_zero, List.set_cons_succ]
      refine AtE.take (i := 2) (v := ?_) rfl (by kernel_rfl) (by kernel_rfl) (by kernel_rfl) (fun _ _ _ h => h) (by decide) (Or.inl ⟨by rfl, ?_⟩) hHeld ?_
      rotate_left
      · intro wH hSw; have k0 := (hSw.cell (p := ⟨q, 0, none⟩) hq5).trans h0'; go_simp; try (with_reducible rfl)
      simp only [Act.put, List.setIfInBounds_toArray, List.set_cons_zero, List.set_cons_succ]
      refine AtE.take (i := 3) (v := ?_) rfl (by kernel_rfl) (by kernel_rfl) (by kernel_rfl) (fun _ _ _ h => h) (by decide) (Or.inl ⟨by rfl, ?_⟩) hHeld ?_
      rotate_left
      · intro wH hSw; have k0 := (hSw.cell (p := ⟨q, 0, none⟩) hq5).trans h0'; go_simp; try (with_reducible rfl)
      simp only [Act.put, List.setIfInBounds_toArray, List.set_cons_zero, List.set_cons_succ]
      refine AtE.take (i := 4) (v := ?_) rfl (by kernel_rfl) (by kernel_rfl) (by kernel_rfl) (fun _ _ _ h => h) (by decide) (Or.inl ⟨by rfl, ?_⟩) hHeld ?_
      rotate_left
      · intro wH hSw; have k0 := (hSw.cell (p := ⟨q, 0, none⟩) hq5).trans h0'; go_simp; try (with_reducible rfl)
      simp only [Act.put, List.setIfInBounds_toArray, List.set_cons_zero, List.set_cons_succ]
      refine AtE.take (i := 5) (v := ?_) rfl (by kernel_rfl) (by kernel_rfl) (by kernel_rfl) (fun _ _ _ h => h) (by decide) (Or.inl ⟨by rfl, ?_⟩) hHeld ?_
      rotate_left
      · intro wH hSw; have k0 := (hSw.cell (p := ⟨q, 0, none⟩) hq5).trans h0'; go_simp; try (with_reducible rfl)
      simp only [Act.put, List.setIfInBounds_toArray, List.set_cons_zero, List.set_cons_succ]
      refine AtE.take (i := 6) (v := ?_) rfl (by kernel_rfl) (by kernel_rfl) (by kernel_rfl) (fun _ _ _ h => h) (by decide) (Or.inl ⟨by rfl, ?_⟩) hHeld ?_
      rotate_left
      · intro wH hSw; have k0 := (hSw.cell (p := ⟨q, 0, none⟩) hq5).trans h0'; go_simp; try (with_reducible rfl)
      simp only [Act.put, List.setIfInBounds_toArray, List.set_cons_zero, List.set_cons_succ]
      refine AtE.take (i := 7) (v := ?_) rfl (by kernel_rfl) (by kernel_rfl) (by kernel_rfl) (fun _ _ _ h => h) (by decide) (Or.inl ⟨by rfl, ?_⟩) hHeld ?_
      rotate_left
      · intro wH hSw; have k0 := (hSw.cell (p := ⟨q, 0, none⟩) hq5).trans h0'; go_simp; try (with_reducible rfl)
      simp only [Act.put, List.setIfInBounds_toArray, List.set_cons_zero, List.set_cons_succ]
      refine AtE.take (i := 8) (v := ?_) rfl (by kernel_rfl) (by kernel_rfl) (by kernel_rfl) (fun _ _ _ h => h) (by decide) (Or.inl ⟨by rfl, ?_⟩) hHeld ?_
      rotate_left
      · intro wH hSw; have k0 := (hSw.cell (p := ⟨q, 0, none⟩) hq5).trans h0'; go_simp; try (with_reducible rfl)
      simp only [Act.put, List.setIfInBounds_toArray, List.set_cons_zero, List.set_cons_succ]
      refine AtE.take (i := 9) (v := ?_) rfl (by kernel_rfl) (by kernel_rfl) (by kernel_rfl) (fun _ _ _ h => h) (by decide) (Or.inl ⟨by rfl, ?_⟩) hHeld ?_
      rotate_left
      · intro wH hSw; have k0 := (hSw.cell (p := ⟨q, 0, none⟩) hq5).trans h0'; go_simp; try (with_reducible rfl)
      simp only [Act.put, List.setIfInBounds_toArray, List.set_cons_zero, List.set_cons_succ]
      refine AtE.take (i := 10) (v := ?_) rfl (by kernel_rfl) (by kernel_rfl) (by kernel_rfl) (fun _ _ _ h => h) (by decide) (Or.inl ⟨by rfl, ?_⟩) hHeld ?_
      rotate_left
      · intro wH hSw; have k0 := (hSw.cell (p := ⟨q, 0, none⟩) hq5).trans h0'; go_simp; try (with_reducible rfl)
      simp only [Act.put, List.setIfInBounds_toArray, List.set_cons_zero, List.set_cons_succ]
      refine AtE.take (i := 11) (v := undef) rfl (by kernel_rfl) (by kernel_rfl) (by kernel_rfl) (fun _ _ _ h => h) (by decide) (Or.inr ⟨by rfl, rfl⟩) hHeld ?_
      simp only [Act.put, List.setIfInBounds_toArray, List.set_cons_zero, List.set_cons_succ]
      refine AtE.take (i := 12) (v := undef) rfl (by kernel_rfl) (by kernel_rfl) (by kernel_rfl) (fun _ _ _ h => h) (by decide) (Or.inr ⟨by rfl, rfl⟩) hHeld ?_
      simp only [Act.put, List.setIfInBounds_toArray, List.set_cons_zero, List.set_cons_succ]
      refine AtE.take (i := 13) (v := undef) rfl (by kernel_rfl) (by kernel_rfl) (by kernel_rfl) (fun _ _ _ h => h) (by decide) (Or.inr ⟨by rfl, rfl⟩) hHeld ?_
      simp only [Act.put, List.setIfInBounds_toArray, List.set_cons_zero, List.set_cons_succ]
      refine AtE.take (i := 14) (v := undef) rfl (by kernel_rfl) (by kernel_rfl) (by kernel_rfl) (fun _ _ _ h => h) (by decide) (Or.inr ⟨by rfl, rfl⟩) hHeld ?_
      simp only [Act.put, List.setIfInBounds_toArray, List.set_cons_zero, List.set_cons_succ]
      refine AtE.take (i := 15) (v := undef) rfl (by kernel_rfl) (by kernel_rfl) (by kernel_rfl) (fun _ _ _ h => h) (by decide) (Or.inr ⟨by rfl, rfl⟩) hHeld ?_
      simp only [Act.put, List.setIfInBounds_toArray, List.set_cons_zero, List.set_cons_succ]
      refine AtE.take (i := 16) (v := undef) rfl (by kernel_rfl) (by kernel_rfl) (by kernel_rfl) (fun _ _ _ h => h) (by decide) (Or.inr ⟨by rfl, rfl⟩) hHeld ?_
      simp only [Act.put, List.setIfInBounds_toArray, List.set_cons_zero, List.set_cons_succ]
      refine AtE.take (i := 17) (v := undef) rfl (by kernel_rfl) (by kernel_rfl) (by kernel_rfl) (fun _ _ _ h => h) (by decide) (Or.inr ⟨by rfl, rfl⟩) hHeld ?_
      simp only [Act.put, List.setIfInBounds_toArray, List.set_cons_zero, List.set_cons_succ]
      refine AtE.take (i := 18) (v := undef) rfl (by kernel_rfl) (by kernel_rfl) (by kernel_rfl) (fun _ _ _ h => h) (by decide) (Or.inr ⟨by rfl, rfl⟩) hHeld ?_
      simp only [Act.put, List.setIfInBounds_toArray, List.set_cons_zero, List.set_cons_succ]
      refine AtE.take (i := 19) (v := undef) rfl (by kernel_rfl) (by kernel_rfl) (by kernel_rfl) (fun _ _ _ h => h) (by decide) (Or.inr ⟨by rfl, rfl⟩) hHeld ?_
      simp only [Act.put, List.setIfInBounds_toArray, List.set_cons_zero, List.set_cons_succ]
      refine AtE.take (i := 20) (v := undef) rfl (by kernel_rfl) (by kernel_rfl) (by kernel_rfl) (fun _ _ _ h => h) (by decide) (Or.inr ⟨by rfl, rfl⟩) hHeld ?_
      simp only [Act.put, List.setIfInBounds_toArray, List.set_cons_zero, List.set_cons_succ]
      refine AtE.take (i := 21) (v := undef) rfl (by kernel_rfl) (by kernel_rfl) (by kernel_rfl) (fun _ _ _ h => h) (by decide) (Or.inr ⟨by rfl, rfl⟩) hHeld ?_
      simp only [Act.put, List.setIfInBounds_toArray, List.set_cons_zero, List.set_cons_succ]
      refine AtE.take (i := 22) (v := undef) rfl (by kernel_rfl) (by kernel_rfl) (by kernel_rfl) (fun _ _ _ h => h) (by decide) (Or.inr ⟨by rfl, rfl⟩) hHeld ?_
      simp only [Act.put, List.setIfInBounds_toArray, List.set_cons_zero, List.set_cons_succ]
      refine AtE.take (i := 23) (v := undef) rfl (by kernel_rfl) (by kernel_rfl) (by kernel_rfl) (fun _ _ _ h => h) (by decide) (Or.inr ⟨by rfl, rfl⟩) hHeld ?_
      simp only [Act.put, List.setIfInBounds_toArray, List.set_cons_zero, List.set_cons_succ]
      refine AtE.take (i := 24) (v := undef) rfl (by kernel_rfl) (by kernel_rfl) (by kernel_rfl) (fun _ _ _ h => h) (by decide) (Or.inr ⟨by rfl, rfl⟩) hHeld ?_
      simp only [Act.put, List.setIfInBounds_toArray, List.set_cons_zero, List.set_cons_succ]
      refine AtE.take (i := 25) (v := undef) rfl (by kernel_rfl) (by kernel_rfl) (by kernel_rfl) (fun _ _ _ h => h) (by decide) (Or.inr ⟨by rfl, rfl⟩) hHeld ?_
      simp only [Act.put, List.setIfInBounds_toArray, List.set_cons_zero, List.set_cons_succ]
      refine AtE.take (i := 26) (v := undef) rfl (by kernel_rfl) (by kernel_rfl) (by kernel_rfl) (fun _ _ _ h => h) (by decide) (Or.inr ⟨by rfl, rfl⟩) hHeld ?_
      simp only [Act.put, List.setIfInBounds_toArray, List.set_cons_zero, List.set_cons_succ]
      refine AtE.take (i := 27) (v := undef) rfl (by kernel_rfl) (by kernel_rfl) (by kernel_rfl) (fun _ _ _ h => h) (by decide) (Or.inr ⟨by rfl, rfl⟩) hHeld ?_
      simp only [Act.put, List.setIfInBounds_toArray, List.set_cons_zero, List.set_cons_succ]
      refine AtE.take (i := 28) (v := undef) rfl (by kernel_rfl) (by kernel_rfl) (by kernel_rfl) (fun _ _ _ h => h) (by decide) (Or.inr ⟨by rfl, rfl⟩) hHeld ?_
      simp only [Act.put, List.setIfInBounds_toArray, List.set_cons_zero, List.set_cons_succ]
      refine AtE.take (i := 29) (v := undef) rfl (by kernel_rfl) (by kernel_rfl) (by kernel_rfl) (fun _ _ _ h => h) (by decide) (Or.inr ⟨by rfl, rfl⟩) hHeld ?_
      simp only [Act.put, List.setIfInBounds_toArray, List.set_cons_zero, List.set_cons_succ]
      refine AtE.take (i := 30) (v := undef) rfl (by kernel_rfl) (by kernel_rfl) (by kernel_rfl) (fun _ _ _ h => h) (by decide) (Or.inr ⟨by rfl, rfl⟩) hHeld ?_
      simp only [Act.put, List.setIfInBounds_toArray, List.set_cons_zero, List.set_cons_succ]
      refine AtE.take (i := 31) (v := undef) rfl (by kernel_rfl) (by kernel_rfl) (by kernel_rfl) (fun _ _ _ h => h) (by decide) (Or.inr ⟨by rfl, rfl⟩) hHeld ?_
      simp only [Act.put, List.setIfInBounds_toArray, List.set_cons_zero, List.set_cons_succ]
      refine AtE.take (i := 32) (v := undef) rfl (by kernel_rfl) (by kernel_rfl) (by kernel_rfl) (fun _ _ _ h => h) (by decide) (Or.inr ⟨by rfl, rfl⟩) hHeld ?_
      simp only [Act.put, List.setIfInBounds_toArray, List.set_cons_zero, List.set_cons_succ]
      refine AtE.take (i := 33) (v := undef) rfl (by kernel_rfl) (by kernel_rfl) (by kernel_rfl) (fun _ _ _ h => h) (by decide) (Or.inr ⟨by rfl, rfl⟩) hHeld ?_
      simp only [Act.put, List.setIfInBounds_toArray, List.set_cons_zero, List.set_cons_succ]
      refine AtE.take (i := 34) (v := undef) rfl (by kernel_rfl) (by kernel_rfl) (by kernel_rfl) (fun _ _ _ h => h) (by decide) (Or.inr ⟨by rfl, rfl⟩) hHeld ?_
      simp only [Act.put, List.setIfInBounds_toArray, List.set_cons_zero, List.set_cons_succ]
      refine AtE.take (i := 35) (v := undef) rfl (by kernel_rfl) (by kernel_rfl) (by kernel_rfl) (fun _ _ _ h => h) (by decide) (Or.inr ⟨by rfl, rfl⟩) hHeld ?_
      simp only [Act.put, List.setIfInBounds_toArray, List.set_cons_zero, List.set_cons_succ]
      refine AtE.take (i := 36) (v := undef) rfl (by kernel_rfl) (by kernel_rfl) (by kernel_rfl) (fun _ _ _ h => h) (by decide) (Or.inr ⟨by rfl, rfl⟩) hHeld ?_
      simp only [Act.put, List.setIfInBounds_toArray, List.set_cons_zero, List.set_cons_succ]
      refine AtE.take (i := 37) (v := undef) rfl (by kernel_rfl) (by kernel_rfl) (by kernel_rfl) (fun _ _ _ h => h) (by decide) (Or.inr ⟨by rfl, rfl⟩) hHeld ?_
      simp only [Act.put, List.setIfInBounds_toArray, List.set_cons_zero, List.set_cons_succ]
      refine AtE.take (i := 38) (v := undef) rfl (by kernel_rfl) (by kernel_rfl) (by kernel_rfl) (fun _ _ _ h => h) (by decide) (Or.inr ⟨by rfl, rfl⟩) hHeld ?_
      simp only [Act.put, List.setIfInBounds_toArray, List.set_cons_zero, List.set_cons_succ]
      refine AtE.take (i := 39) (v := undef) rfl (by kernel_rfl) (by kernel_rfl) (by kernel_rfl) (fun _ _ _ h => h) (by decide) (Or.inr ⟨by rfl, rfl⟩) hHeld ?_
      simp only [Act.put, List.setIfInBounds_toArray, List.set_cons_zero, List.set_cons_succ]
      refine AtE.take (i := 40) (v := undef) rfl (by kernel_rfl) (by kernel_rfl) (by kernel_rfl) (fun _ _ _ h => h) (by decide) (Or.inr ⟨by rfl, rfl⟩) hHeld ?_
      simp only [Act.put, List.setIfInBounds_toArray, List.set_cons_zero, List.set_cons_succ]
      refine AtE.take (i := 41) (v := undef) rfl (by kernel_rfl) (by kernel_rfl) (by kernel_rfl) (fun _ _ _ h => h) (by decide) (Or.inr ⟨by rfl, rfl⟩) hHeld ?_
      simp only [Act.put, List.setIfInBounds_toArray, List.set_cons_zero, List.set_cons_succ]
      refine AtE.take (i := 42) (v := undef) rfl (by kernel_rfl) (by kernel_rfl) (by kernel_rfl) (fun _ _ _ h => h) (by decide) (Or.inr ⟨by rfl, rfl⟩) hHeld ?_
      simp only [Act.put, List.setIfInBounds_toArray, List.set_cons_zero, List.set_cons_succ]
      refine AtE.take (i := 43) (v := ?_) rfl (by kernel_rfl) (by kernel_rfl) (by kernel_rfl) (fun _ _ _ h => h) (by decide) (Or.inl ⟨by rfl, ?_⟩) hHeld ?_
      rotate_left
      · intro wH hSw; have k0 := (hSw.cell (p := ⟨q, 0, none⟩) hq5).trans h0'; go_simp; try (with_reducible rfl)
      simp only [Act.put, List.setIfInBounds_toArray, List.set_cons_zero, List.set_cons_succ]
      refine AtE.take (i := 44) (v := ?_) rfl (by kernel_rfl) (by kernel_rfl) (by kernel_rfl) (fun _ _ _ h => h) (by decide) (Or.inl ⟨by rfl, ?_⟩) hHeld ?_
      rotate_left
      · intro wH hSw; have k0 := (hSw.cell (p := ⟨q, 0, none⟩) hq5).trans h0'; go_simp; try (with_reducible rfl)
      simp only [Act.put, List.setIfInBounds_toArray, List.set_cons_zero, List.set_cons_succ]
      refine AtE.take (i := 45) (v := ?_) rfl (by kernel_rfl) (by kernel_rfl) (by kernel_rfl) (fun _ _ _ h => h) (by decide) (Or.inl ⟨by rfl, ?_⟩) hHeld ?_
      rotate_left
      · intro wH hSw; have k0 := (hSw.cell (p := ⟨q, 0, none⟩) hq5).trans h0'; go_simp; try (with_reducible rfl)
      simp only [Act.put, List.setIfInBounds_toArray, List.set_cons_zero, List.set_cons_succ]
      refine AtE.take (i := 46) (v := ?_) rfl (by kernel_rfl) (by kernel_rfl) (by kernel_rfl) (fun _ _ _ h => h) (by decide) (Or.inl ⟨by rfl, ?_⟩) hHeld ?_
      rotate_left
      · intro wH hSw; have k0 := (hSw.cell (p := ⟨q, 0, none⟩) hq5).trans h0'; go_simp; try (with_reducible rfl)
      simp only [Act.put, List.setIfInBounds_toArray, List.set_cons_zero, List.set_cons_succ]
      refine AtE.take (i := 47) (v := ?_) rfl (by kernel_rfl) (by kernel_rfl) (by kernel_rfl) (fun _ _ _ h => h) (by decide) (Or.inl ⟨by rfl, ?_⟩) hHeld ?_
      rotate_left
      · intro wH hSw; have k0 := (hSw.cell (p := ⟨q, 0, none⟩) hq5).trans h0'; go_simp; try (with_reducible rfl)
      simp only [Act.put, List.setIfInBounds_toArray, List.set_cons_zero, List.set_cons_succ]
      refine AtE.take (i := 48) (v := ?_) rfl (by kernel_rfl) (by kernel_rfl) (by kernel_rfl) (fun _ _ _ h => h) (by decide) (Or.inl ⟨by rfl, ?_⟩) hHeld ?_
      rotate_left
      · intro wH hSw; have k0 := (hSw.cell (p := ⟨q, 0, none⟩) hq5).trans h0'; go_simp; try (with_reducible rfl)
      simp only [Act.put, List.setIfInBounds_toArray, List.set_cons_zero, List.set_cons_succ]
      refine AtE.take (i := 49) (v := ?_) rfl (by kernel_rfl) (by kernel_rfl) (by kernel_rfl) (fun _ _ _ h => h) (by decide) (Or.inl ⟨by rfl, ?_⟩) hHeld ?_
      rotate_left
      · intro wH hSw; have k0 := (hSw.cell (p := ⟨q, 0, none⟩) hq5).trans h0'; go_simp; try (with_reducible rfl)
      simp only [Act.put, List.setIfInBounds_toArray, List.set_cons_zero, List.set_cons_succ]
      refine AtE.take (i := 50) (v := ?_) rfl (by kernel_rfl) (by kernel_rfl) (by kernel_rfl) (fun _ _ _ h => h) (by decide) (Or.inl ⟨by rfl, ?_⟩) hHeld ?_
      rotate_left
      · intro wH hSw; have k0 := (hSw.cell (p := ⟨q, 0, none⟩) hq5).trans h0'; go_simp; try (with_reducible rfl)
      simp only [Act.put, List.setIfInBounds_toArray, List.set_cons_zero, List.set_cons_succ]
      refine AtE.take (i := 51) (v := ?_) rfl (by kernel_rfl) (by kernel_rfl) (by kernel_rfl) (fun _ _ _ h => h) (by decide) (Or.inl ⟨by rfl, ?_⟩) hHeld ?_
      rotate_left
      · intro wH hSw; have k0 := (hSw.cell (p := ⟨q, 0, none⟩) hq5).trans h0'; go_simp; try (with_reducible rfl)
      simp only [Act.put, List.setIfInBounds_toArray, List.set_cons_zero, List.set_cons_succ]
      refine AtE.take (i := 52) (v := ?_) rfl (by kernel_rfl) (by kernel_rfl) (by kernel_rfl) (fun _ _ _ h => h) (by decide) (Or.inl ⟨by rfl, ?_⟩) hHeld ?_
      rotate_left
      · intro wH hSw; have k0 := (hSw.cell (p := ⟨q, 0, none⟩) hq5).trans h0'; go_simp; try (with_reducible rfl)
      simp only [Act.put, List.setIfInBounds_toArray, List.set_cons_zero, List.set_cons_succ]
      refine AtE.take (i := 53) (v := ?_) rfl (by kernel_rfl) (by kernel_rfl) (by kernel_rfl) (fun _ _ _ h => h) (by decide) (Or.inl ⟨by rfl, ?_⟩) hHeld ?_
      rotate_left
      · intro wH hSw; have k0 := (hSw.cell (p := ⟨q, 0, none⟩) hq5).trans h0'; go_simp; try (with_reducible rfl)
      simp only [Act.put, List.setIfInBounds_toArray, List.set_cons_zero, List.set_cons_succ]
      refine AtE.take (i := 54) (v := ?_) rfl (by kernel_rfl) (by kernel_rfl) (by kernel_rfl) (fun _ _ _ h => h) (by decide) (Or.inl ⟨by rfl, ?_⟩) hHeld ?_
      rotate_left
      · intro wH hSw; have k0 := (hSw.cell (p := ⟨q, 0, none⟩) hq5).trans h0'; go_simp; try (with_reducible rfl)
      simp only [Act.put, List.setIfInBounds_toArray, List.set_cons_zero, List.set_cons_succ]
      refine AtE.take (i := 55) (v := ?_) rfl (by kernel_rfl) (by kernel_rfl) (by kernel_rfl) (fun _ _ _ h => h) (by decide) (Or.inl ⟨by rfl, ?_⟩) hHeld ?_
      rotate_left
      · intro wH hSw; have k0 := (hSw.cell (p := ⟨q, 0, none⟩) hq5).trans h0'; go_simp; try (with_reducible rfl)
      simp only [Act.put, List.setIfInBounds_toArray, List.set_cons_zero, List.set_cons_succ]
      refine AtE.one (i := 56) rfl (by kernel_rfl) (fun K hK => ?_)
      go_simp
      refine hK.out _ _ (fun h => absurd rfl h) (fun _ => ?_)
      clear hK K
      refine AtE.done (by kernel_rfl) ?_
      go_wp2
      go_meet
      case rel => exact ⟨rfl, ext_trans HW5.out hHeld⟩
    · subst hA
      replace g0 := (HW5.out.cell (p := ⟨g, N * 6, none⟩) hg).trans g0
      replace g1 := (HW5.out.cell (p := ⟨g, N * 6 + 1, none⟩) hg).trans g1
      have hg5 := Nat.lt_of_lt_of_le hg HW5.out.size
      have hwr : IntKind.i64.wrap ((cs.length : Int) - 1) = (N : Int) := by rw [IntWalk.i64_in _ (by omega)]; omega
      have hlt0 : (0 : Int) ≤ (N : Int) := by omega
      have hlt' : (N : Int) < (cs.length : Int) := by omega
      have hlt'' : (0 : Int) < (cs.length : Int) := by omega
      have hd1 : decide (0 < cs.length) = true := by simp; omega
      have hd2 : decide ((0 : Int) < (cs.length : Int)) = true := by simp; omega
      have hn1 : (x.p.rule != x.p.rule) = false := by simp
      have hn2 : (x.p.place != x.p.place) = false := by simp
      clear HLST hN h0
      refine AtE.start (S := fun w' => Below w5.heap.size w5 w') 56 (by kernel_rfl) (by kernel_rfl) (by exact (ext_refl w5).drew) (fun hHeld => ?_)
      refine AtE.take (i := 0) (v := ?_) rfl (by kernel_rfl) (by kernel_rfl) (by kernel_rfl) (fun _ _ _ h => h) (by decide) (Or.inl ⟨by rfl, ?_⟩) hHeld ?_
      rotate_left
      · intro wH hSw; have k0 := (hSw.cell (p := ⟨q, 0, none⟩) hq5).trans h0'; have k1 := (hSw.cell (p := ⟨g, N * 6, none⟩) hg5).trans g0; have k2 := (hSw.cell (p := ⟨g, N * 6 + 1, none⟩) hg5).trans g1; go_simp; try (with_reducible rfl)
      simp only [Act.put, List.setIfInBounds_toArray, List.set_cons_zero, List.set_cons_succ]
      refine AtE.take (i := 1) (v := ?_) rfl (by kernel_rfl) (by kernel_rfl) (by kernel_rfl) (fun _ _ _ h => h) (by decide) (Or.inl ⟨by rfl, ?_⟩) hHeld ?_
      rotate_left
      · intro wH hSw; have k0 := (hSw.cell (p := ⟨q, 0, none⟩) hq5).trans h0'; have k1 := (hSw.cell (p := ⟨g, N * 6, none⟩) hg5).trans g0; have k2 := (hSw.cell (p := ⟨g, N * 6 + 1, none⟩) hg5).trans g1; go_simp; try (with_reducible rfl)
      simp only [Act.put, List.setIfInBounds_toArray, List.set_cons_zero, List.set_cons_succ]
      refine AtE.take (i := 2) (v := ?_) rfl (by kernel_rfl) (by kernel_rfl) (by kernel_rfl) (fun _ _ _ h => h) (by decide) (Or.inl ⟨by rfl, ?_⟩) hHeld ?_
      rotate_left
      · intro wH hSw; have k0 := (hSw.cell (p := ⟨q, 0, none⟩) hq5).trans h0'; have k1 := (hSw.cell (p := ⟨g, N * 6, none⟩) hg5).trans g0; have k2 := (hSw.cell (p := ⟨g, N * 6 + 1, none⟩) hg5).trans g1; go_simp; try (with_reducible rfl)
      simp only [Act.put, List.setIfInBounds_toArray, List.set_cons_zero, List.set_cons_succ]
      refine AtE.take (i := 3) (v := ?_) rfl (by kernel_rfl) (by kernel_rfl) (by kernel_rfl) (fun _ _ _ h => h) (by decide) (Or.inl ⟨by rfl, ?_⟩) hHeld ?_
      rotate_left
      · intro wH hSw; have k0 := (hSw.cell (p := ⟨q, 0, none⟩) hq5).trans h0'; have k1 := (hSw.cell (p := ⟨g, N * 6, none⟩) hg5).trans g0; have k2 := (hSw.cell (p := ⟨g, N * 6 + 1, none⟩) hg5).trans g1; go_simp; try (with_reducible rfl)
      simp only [Act.put, List.setIfInBounds_toArray, List.set_cons_zero, List.set_cons_succ]
      refine AtE.take (i := 4) (v := ?_) rfl (by kernel_rfl) (by kernel_rfl) (by kernel_rfl) (fun _ _ _ h => h) (by decide) (Or.inl ⟨by rfl, ?_⟩) hHeld ?_
      rotate_left
      · intro wH hSw; have k0 := (hSw.cell (p := ⟨q, 0, none⟩) hq5).trans h0'; have k1 := (hSw.cell (p := ⟨g, N * 6, none⟩) hg5).trans g0; have k2 := (hSw.cell (p := ⟨g, N * 6 + 1, none⟩) hg5).trans g1; go_simp; try (with_reducible rfl)
      simp only [Act.put, List.setIfInBounds_toArray, List.set_cons_zero, List.set_cons_succ]
      refine AtE.take (i := 5) (v := ?_) rfl (by kernel_rfl) (by kernel_rfl) (by kernel_rfl) (fun _ _ _ h => h) (by decide) (Or.inl ⟨by rfl, ?_⟩) hHeld ?_
      rotate_left
      · intro wH hSw; have k0 := (hSw.cell (p := ⟨q, 0, none⟩) hq5).trans h0'; have k1 := (hSw.cell (p := ⟨g, N * 6, none⟩) hg5).trans g0; have k2 := (hSw.cell (p := ⟨g, N * 6 + 1, none⟩) hg5).trans g1; go_simp; try (with_reducible rfl)
      simp only [Act.put, List.setIfInBounds_toArray, List.set_cons_zero, List.set_cons_succ]
      refine AtE.take (i := 6) (v := ?_) rfl (by kernel_rfl) (by kernel_rfl) (by kernel_rfl) (fun _ _ _ h => h) (by decide) (Or.inl ⟨by rfl, ?_⟩) hHeld ?_
      rotate_left
      · intro wH hSw; have k0 := (hSw.cell (p := ⟨q, 0, none⟩) hq5).trans h0'; have k1 := (hSw.cell (p := ⟨g, N * 6, none⟩) hg5).trans g0; have k2 := (hSw.cell (p := ⟨g, N * 6 + 1, none⟩) hg5).trans g1; go_simp; try (with_reducible rfl)
      simp only [Act.put, List.setIfInBounds_toArray, List.set_cons_zero, List.set_cons_succ]
      refine AtE.take (i := 7) (v := ?_) rfl (by kernel_rfl) (by kernel_rfl) (by kernel_rfl) (fun _ _ _ h => h) (by decide) (Or.inl ⟨by rfl, ?_⟩) hHeld ?_
      rotate_left
      · intro wH hSw; have k0 := (hSw.cell (p := ⟨q, 0, none⟩) hq5).trans h0'; have k1 := (hSw.cell (p := ⟨g, N * 6, none⟩) hg5).trans g0; have k2 := (hSw.cell (p := ⟨g, N * 6 + 1, none⟩) hg5).trans g1; go_simp; try (with_reducible rfl)
      simp only [Act.put, List.setIfInBounds_toArray, List.set_cons_zero, List.set_cons_succ]
      refine AtE.take (i := 8) (v := ?_) rfl (by kernel_rfl) (by kernel_rfl) (by kernel_rfl) (fun _ _ _ h => h) (by decide) (Or.inl ⟨by rfl, ?_⟩) hHeld ?_
      rotate_left
      · intro wH hSw; have k0 := (hSw.cell (p := ⟨q, 0, none⟩) hq5).trans h0'; have k1 := (hSw.cell (p := ⟨g, N * 6, none⟩) hg5).trans g0; have k2 := (hSw.cell (p := ⟨g, N * 6 + 1, none⟩) hg5).trans g1; go_simp; try (with_reducible rfl)
      simp only [Act.put, List.setIfInBounds_toArray, List.set_cons_zero, List.set_cons_succ]
      refine AtE.take (i := 9) (v := ?_) rfl (by kernel_rfl) (by kernel_rfl) (by kernel_rfl) (fun _ _ _ h => h) (by decide) (Or.inl ⟨by rfl, ?_⟩) hHeld ?_
      rotate_left
      · intro wH hSw; have k0 := (hSw.cell (p := ⟨q, 0, none⟩) hq5).trans h0'; have k1 := (hSw.cell (p := ⟨g, N * 6, none⟩) hg5).trans g0; have k2 := (hSw.cell (p := ⟨g, N * 6 + 1, none⟩) hg5).trans g1; go_simp; try (with_reducible rfl)
      simp only [Act.put, List.setIfInBounds_toArray, List.set_cons_zero, List.set_cons_succ]
      refine AtE.take (i := 10) (v := ?_) rfl (by kernel_rfl) (by kernel_rfl) (by kernel_rfl) (fun _ _ _ h => h) (by decide) (Or.inl ⟨by rfl, ?_⟩) hHeld ?_
      rotate_left
      · intro wH hSw; have k0 := (hSw.cell (p := ⟨q, 0, none⟩) hq5).trans h0'; have k1 := (hSw.cell (p := ⟨g, N * 6, none⟩) hg5).trans g0; have k2 := (hSw.cell (p := ⟨g, N * 6 + 1, none⟩) hg5).trans g1; go_simp; try (with_reducible rfl)
      simp only [Act.put, List.setIfInBounds_toArray, List.set_cons_zero, List.set_cons_succ]
      refine AtE.take (i := 11) (v := ?_) rfl (by kernel_rfl) (by kernel_rfl) (by kernel_rfl) (fun _ _ _ h => h) (by decide) (Or.inl ⟨by rfl, ?_⟩) hHeld ?_
      rotate_left
      · intro wH hSw; have k0 := (hSw.cell (p := ⟨q, 0, none⟩) hq5).trans h0'; have k1 := (hSw.cell (p := ⟨g, N * 6, none⟩) hg5).trans g0; have k2 := (hSw.cell (p := ⟨g, N * 6 + 1, none⟩) hg5).trans g1; go_simp; try (with_reducible rfl)
      simp only [Act.put, List.setIfInBounds_toArray, List.set_cons_zero, List.set_cons_succ]
      refine AtE.take (i := 12) (v := ?_) rfl (by kernel_rfl) (by kernel_rfl) (by kernel_rfl) (fun _ _ _ h => h) (by decide) (Or.inl ⟨by rfl, ?_⟩) hHeld ?_
      rotate_left
      · intro wH hSw; have k0 := (hSw.cell (p := ⟨q, 0, none⟩) hq5).trans h0'; have k1 := (hSw.cell (p := ⟨g, N * 6, none⟩) hg5).trans g0; have k2 := (hSw.cell (p := ⟨g, N * 6 + 1, none⟩) hg5).trans g1; go_simp; try (with_reducible rfl)
      simp only [Act.put, List.setIfInBounds_toArray, List.set_cons_zero, List.set_cons_succ]
      refine AtE.take (i := 13) (v := ?_) rfl (by kernel_rfl) (by kernel_rfl) (by kernel_rfl) (fun _ _ _ h => h) (by decide) (Or.inl ⟨by rfl, ?_⟩) hHeld ?_
      rotate_left
      · intro wH hSw; have k0 := (hSw.cell (p := ⟨q, 0, none⟩) hq5).trans h0'; have k1 := (hSw.cell (p := ⟨g, N * 6, none⟩) hg5).trans g0; have k2 := (hSw.cell (p := ⟨g, N * 6 + 1, none⟩) hg5).trans g1; go_simp; try (with_reducible rfl)
      simp only [Act.put, List.setIfInBounds_toArray, List.set_cons_zero, List.set_cons_succ]
      refine AtE.take (i := 14) (v := ?_) rfl (by kernel_rfl) (by kernel_rfl) (by kernel_rfl) (fun _ _ _ h => h) (by decide) (Or.inl ⟨by rfl, ?_⟩) hHeld ?_
      rotate_left
      · intro wH hSw; have k0 := (hSw.cell (p := ⟨q, 0, none⟩) hq5).trans h0'; have k1 := (hSw.cell (p := ⟨g, N * 6, none⟩) hg5).trans g0; have k2 := (hSw.cell (p := ⟨g, N * 6 + 1, none⟩) hg5).trans g1; go_simp; try (with_reducible rfl)
      simp only [Act.put, List.setIfInBounds_toArray, List.set_cons_zero, List.set_cons_succ]
      refine AtE.take (i := 15) (v := ?_) rfl (by kernel_rfl) (by kernel_rfl) (by kernel_rfl) (fun _ _ _ h => h) (by decide) (Or.inl ⟨by rfl, ?_⟩) hHeld ?_
      rotate_left
      · intro wH hSw; have k0 := (hSw.cell (p := ⟨q, 0, none⟩) hq5).trans h0'; have k1 := (hSw.cell (p := ⟨g, N * 6, none⟩) hg5).trans g0; have k2 := (hSw.cell (p := ⟨g, N * 6 + 1, none⟩) hg5).trans g1; go_simp; try (with_reducible rfl)
      simp only [Act.put, List.setIfInBounds_toArray, List.set_cons_zero, List.set_cons_succ]
      refine AtE.take (i := 16) (v := ?_) rfl (by kernel_rfl) (by kernel_rfl) (by kernel_rfl) (fun _ _ _ h => h) (by decide) (Or.inl ⟨by rfl, ?_⟩) hHeld ?_
      rotate_left
      · intro wH hSw; have k0 := (hSw.cell (p := ⟨q, 0, none⟩) hq5).trans h0'; have k1 := (hSw.cell (p := ⟨g, N * 6, none⟩) hg5).trans g0; have k2 := (hSw.cell (p := ⟨g, N * 6 + 1, none⟩) hg5).trans g1; go_simp; try (with_reducible rfl)
      simp only [Act.put, List.setIfInBounds_toArray, List.set_cons_zero, List.set_cons_succ]
      refine AtE.take (i := 17) (v := ?_) rfl (by kernel_rfl) (by kernel_rfl) (by kernel_rfl) (fun _ _ _ h => h) (by decide) (Or.inl ⟨by rfl, ?_⟩) hHeld ?_
      rotate_left
      · intro wH hSw; have k0 := (hSw.cell (p := ⟨q, 0, none⟩) hq5).trans h0'; have k1 := (hSw.cell (p := ⟨g, N * 6, none⟩) hg5).trans g0; have k2 := (hSw.cell (p := ⟨g, N * 6 + 1, none⟩) hg5).trans g1; go_simp; try (with_reducible rfl)
      simp only [Act.put, List.setIfInBounds_toArray, List.set_cons_zero, List.set_cons_succ]
      refine AtE.take (i := 18) (v := ?_) rfl (by kernel_rfl) (by kernel_rfl) (by kernel_rfl) (fun _ _ _ h => h) (by decide) (Or.inl ⟨by rfl, ?_⟩) hHeld ?_
      rotate_left
      · intro wH hSw; have k0 := (hSw.cell (p := ⟨q, 0, none⟩) hq5).trans h0'; have k1 := (hSw.cell (p := ⟨g, N * 6, none⟩) hg5).trans g0; have k2 := (hSw.cell (p := ⟨g, N * 6 + 1, none⟩) hg5).trans g1; go_simp; try (with_reducible rfl)
      simp only [Act.put, List.setIfInBounds_toArray, List.set_cons_zero, List.set_cons_succ]
      refine AtE.take (i := 19) (v := ?_) rfl (by kernel_rfl) (by kernel_rfl) (by kernel_rfl) (fun _ _ _ h => h) (by decide) (Or.inl ⟨by rfl, ?_⟩) hHeld ?_
      rotate_left
      · intro wH hSw; have k0 := (hSw.cell (p := ⟨q, 0, none⟩) hq5).trans h0'; have k1 := (hSw.cell (p := ⟨g, N * 6, none⟩) hg5).trans g0; have k2 := (hSw.cell (p := ⟨g, N * 6 + 1, none⟩) hg5).trans g1; go_simp; try (with_reducible rfl)
      simp only [Act.put, List.setIfInBounds_toArray, List.set_cons_zero, List.set_cons_succ]
      refine AtE.take (i := 20) (v := ?_) rfl (by kernel_rfl) (by kernel_rfl) (by kernel_rfl) (fun _ _ _ h => h) (by decide) (Or.inl ⟨by rfl, ?_⟩) hHeld ?_
      rotate_left
      · intro wH hSw; have k0 := (hSw.cell (p := ⟨q, 0, none⟩) hq5).trans h0'; have k1 := (hSw.cell (p := ⟨g, N * 6, none⟩) hg5).trans g0; have k2 := (hSw.cell (p := ⟨g, N * 6 + 1, none⟩) hg5).trans g1; go_simp; try (with_reducible rfl)
      simp only [Act.put, List.setIfInBounds_toArray, List.set_cons_zero, List.set_cons_succ]
      refine AtE.take (i := 21) (v := ?_) rfl (by kernel_rfl) (by kernel_rfl) (by kernel_rfl) (fun _ _ _ h => h) (by decide) (Or.inl ⟨by rfl, ?_⟩) hHeld ?_
      rotate_left
      · intro wH hSw; have k0 := (hSw.cell (p := ⟨q, 0, none⟩) hq5).trans h0'; have k1 := (hSw.cell (p := ⟨g, N * 6, none⟩) hg5).trans g0; have k2 := (hSw.cell (p := ⟨g, N * 6 + 1, none⟩) hg5).trans g1; go_simp; try (with_reducible rfl)
      simp only [Act.put, List.setIfInBounds_toArray, List.set_cons_zero, List.set_cons_succ]
      refine AtE.take (i := 22) (v := ?_) rfl (by kernel_rfl) (by kernel_rfl) (by kernel_rfl) (fun _ _ _ h => h) (by decide) (Or.inl ⟨by rfl, ?_⟩) hHeld ?_
      rotate_left
      · intro wH hSw; have k0 := (hSw.cell (p := ⟨q, 0, none⟩) hq5).trans h0'; have k1 := (hSw.cell (p := ⟨g, N * 6, none⟩) hg5).trans g0; have k2 := (hSw.cell (p := ⟨g, N * 6 + 1, none⟩) hg5).trans g1; go_simp; try (with_reducible rfl)
      simp only [Act.put, List.setIfInBounds_toArray, List.set_cons_zero, List.set_cons_succ]
      refine AtE.take (i := 23) (v := ?_) rfl (by kernel_rfl) (by kernel_rfl) (by kernel_rfl) (fun _ _ _ h => h) (by decide) (Or.inl ⟨by rfl, ?_⟩) hHeld ?_
      rotate_left
      · intro wH hSw; have k0 := (hSw.cell (p := ⟨q, 0, none⟩) hq5).trans h0'; have k1 := (hSw.cell (p := ⟨g, N * 6, none⟩) hg5).trans g0; have k2 := (hSw.cell (p := ⟨g, N * 6 + 1, none⟩) hg5).trans g1; go_simp; try (with_reducible rfl)
      simp only [Act.put, List.setIfInBounds_toArray, List.set_cons_zero, List.set_cons_succ]
      refine AtE.take (i := 24) (v := ?_) rfl (by kernel_rfl) (by kernel_rfl) (by kernel_rfl) (fun _ _ _ h => h) (by decide) (Or.inl ⟨by rfl, ?_⟩) hHeld ?_
      rotate_left
      · intro wH hSw; have k0 := (hSw.cell (p := ⟨q, 0, none⟩) hq5).trans h0'; have k1 := (hSw.cell (p := ⟨g, N * 6, none⟩) hg5).trans g0; have k2 := (hSw.cell (p := ⟨g, N * 6 + 1, none⟩) hg5).trans g1; go_simp; try (with_reducible rfl)
      simp only [Act.put, List.setIfInBounds_toArray, List.set_cons_zero, List.set_cons_succ]
      refine AtE.take (i := 25) (v := ?_) rfl (by kernel_rfl) (by kernel_rfl) (by kernel_rfl) (fun _ _ _ h => h) (by decide) (Or.inl ⟨by rfl, ?_⟩) hHeld ?_
      rotate_left
      · intro wH hSw; have k0 := (hSw.cell (p := ⟨q, 0, none⟩) hq5).trans h0'; have k1 := (hSw.cell (p := ⟨g, N * 6, none⟩) hg5).trans g0; have k2 := (hSw.cell (p := ⟨g, N * 6 + 1, none⟩) hg5).trans g1; go_simp; try (with_reducible rfl)
      simp only [Act.put, List.setIfInBounds_toArray, List.set_cons_zero, List.set_cons_succ]
      refine AtE.take (i := 26) (v := ?_) rfl (by kernel_rfl) (by kernel_rfl) (by kernel_rfl) (fun _ _ _ h => h) (by decide) (Or.inl ⟨by rfl, ?_⟩) hHeld ?_
      rotate_left
      · intro wH hSw; have k0 := (hSw.cell (p := ⟨q, 0, none⟩) hq5).trans h0'; have k1 := (hSw.cell (p := ⟨g, N * 6, none⟩) hg5).trans g0; have k2 := (hSw.cell (p := ⟨g, N * 6 + 1, none⟩) hg5).trans g1; go_simp; try (with_reducible rfl)
      simp only [Act.put, List.setIfInBounds_toArray, List.set_cons_zero, List.set_cons_succ]
      refine AtE.take (i := 27) (v := ?_) rfl (by kernel_rfl) (by kernel_rfl) (by kernel_rfl) (fun _ _ _ h => h) (by decide) (Or.inl ⟨by rfl, ?_⟩) hHeld ?_
      rotate_left
      · intro wH hSw; have k0 := (hSw.cell (p := ⟨q, 0, none⟩) hq5).trans h0'; have k1 := (hSw.cell (p := ⟨g, N * 6, none⟩) hg5).trans g0; have k2 := (hSw.cell (p := ⟨g, N * 6 + 1, none⟩) hg5).trans g1; go_simp; try (with_reducible rfl)
      simp only [Act.put, List.setIfInBounds_toArray, List.set_cons_zero, List.set_cons_succ]
      refine AtE.take (i := 28) (v := ?_) rfl (by kernel_rfl) (by kernel_rfl) (by kernel_rfl) (fun _ _ _ h => h) (by decide) (Or.inl ⟨by rfl, ?_⟩) hHeld ?_
      rotate_left
      · intro wH hSw; have k0 := (hSw.cell (p := ⟨q, 0, none⟩) hq5).trans h0'; have k1 := (hSw.cell (p := ⟨g, N * 6, none⟩) hg5).trans g0; have k2 := (hSw.cell (p := ⟨g, N * 6 + 1, none⟩) hg5).trans g1; go_simp; try (with_reducible rfl)
      simp only [Act.put, List.setIfInBounds_toArray, List.set_cons_zero, List.set_cons_succ]
      refine AtE.take (i := 29) (v := ?_) rfl (by kernel_rfl) (by kernel_rfl) (by kernel_rfl) (fun _ _ _ h => h) (by decide) (Or.inl ⟨by rfl, ?_⟩) hHeld ?_
      rotate_left
      · intro wH hSw; have k0 := (hSw.cell (p := ⟨q, 0, none⟩) hq5).trans h0'; have k1 := (hSw.cell (p := ⟨g, N * 6, none⟩) hg5).trans g0; have k2 := (hSw.cell (p := ⟨g, N * 6 + 1, none⟩) hg5).trans g1; go_simp; try (with_reducible rfl)
      simp only [Act.put, List.setIfInBounds_toArray, List.set_cons_zero, List.set_cons_succ]
      refine AtE.take (i := 30) (v := ?_) rfl (by kernel_rfl) (by kernel_rfl) (by kernel_rfl) (fun _ _ _ h => h) (by decide) (Or.inl ⟨by rfl, ?_⟩) hHeld ?_
      rotate_left
      · intro wH hSw; have k0 := (hSw.cell (p := ⟨q, 0, none⟩) hq5).trans h0'; have k1 := (hSw.cell (p := ⟨g, N * 6, none⟩) hg5).trans g0; have k2 := (hSw.cell (p := ⟨g, N * 6 + 1, none⟩) hg5).trans g1; go_simp; try (with_reducible rfl)
      simp only [Act.put, List.setIfInBounds_toArray, List.set_cons_zero, List.set_cons_succ]
      refine AtE.take (i := 31) (v := ?_) rfl (by kernel_rfl) (by kernel_rfl) (by kernel_rfl) (fun _ _ _ h => h) (by decide) (Or.inl ⟨by rfl, ?_⟩) hHeld ?_
      rotate_left
      · intro wH hSw; have k0 := (hSw.cell (p := ⟨q, 0, none⟩) hq5).trans h0'; have k1 := (hSw.cell (p := ⟨g, N * 6, none⟩) hg5).trans g0; have k2 := (hSw.cell (p := ⟨g, N * 6 + 1, none⟩) hg5).trans g1; go_simp; try (with_reducible rfl)
      simp only [Act.put, List.setIfInBounds_toArray, List.set_cons_zero, List.set_cons_succ]
      refine AtE.take (i := 32) (v := ?_) rfl (by kernel_rfl) (by kernel_rfl) (by kernel_rfl) (fun _ _ _ h => h) (by decide) (Or.inl ⟨by rfl, ?_⟩) hHeld ?_
      rotate_left
      · intro wH hSw; have k0 := (hSw.cell (p := ⟨q, 0, none⟩) hq5).trans h0'; have k1 := (hSw.cell (p := ⟨g, N * 6, none⟩) hg5).trans g0; have k2 := (hSw.cell (p := ⟨g, N * 6 + 1, none⟩) hg5).trans g1; go_simp; try (with_reducible rfl)
      simp only [Act.put, List.setIfInBounds_toArray, List.set_cons_zero, List.set_cons_succ]
      refine AtE.take (i := 33) (v := ?_) rfl (by kernel_rfl) (by kernel_rfl) (by kernel_rfl) (fun _ _ _ h => h) (by decide) (Or.inl ⟨by rfl, ?_⟩) hHeld ?_
      rotate_left
      · intro wH hSw; have k0 := (hSw.cell (p := ⟨q, 0, none⟩) hq5).trans h0'; have k1 := (hSw.cell (p := ⟨g, N * 6, none⟩) hg5).trans g0; have k2 := (hSw.cell (p := ⟨g, N * 6 + 1, none⟩) hg5).trans g1; go_simp; try (with_reducible rfl)
      simp only [Act.put, List.setIfInBounds_toArray, List.set_cons_zero, List.set_cons_succ]
      refine AtE.take (i := 34) (v := ?_) rfl (by kernel_rfl) (by kernel_rfl) (by kernel_rfl) (fun _ _ _ h => h) (by decide) (Or.inl ⟨by rfl, ?_⟩) hHeld ?_
      rotate_left
      · intro wH hSw; have k0 := (hSw.cell (p := ⟨q, 0, none⟩) hq5).trans h0'; have k1 := (hSw.cell (p := ⟨g, N * 6, none⟩) hg5).trans g0; have k2 := (hSw.cell (p := ⟨g, N * 6 + 1, none⟩) hg5).trans g1; go_simp; try (with_reducible rfl)
      simp only [Act.put, List.setIfInBounds_toArray, List.set_cons_zero, List.set_cons_succ]
      refine AtE.take (i := 35) (v := ?_) rfl (by kernel_rfl) (by kernel_rfl) (by kernel_rfl) (fun _ _ _ h => h) (by decide) (Or.inl ⟨by rfl, ?_⟩) hHeld ?_
      rotate_left
      · intro wH hSw; have k0 := (hSw.cell (p := ⟨q, 0, none⟩) hq5).trans h0'; have k1 := (hSw.cell (p := ⟨g, N * 6, none⟩) hg5).trans g0; have k2 := (hSw.cell (p := ⟨g, N * 6 + 1, none⟩) hg5).trans g1; go_simp; try (with_reducible rfl)
      simp only [Act.put, List.setIfInBounds_toArray, List.set_cons_zero, List.set_cons_succ]
      refine AtE.take (i := 36) (v := ?_) rfl (by kernel_rfl) (by kernel_rfl) (by kernel_rfl) (fun _ _ _ h => h) (by decide) (Or.inl ⟨by rfl, ?_⟩) hHeld ?_
      rotate_left
      · intro wH hSw; have k0 := (hSw.cell (p := ⟨q, 0, none⟩) hq5).trans h0'; have k1 := (hSw.cell (p := ⟨g, N * 6, none⟩) hg5).trans g0; have k2 := (hSw.cell (p := ⟨g, N * 6 + 1, none⟩) hg5).trans g1; go_simp; try (with_reducible rfl)
      simp only [Act.put, List.setIfInBounds_toArray, List.set_cons_zero, List.set_cons_succ]
      refine AtE.take (i := 37) (v := ?_) rfl (by kernel_rfl) (by kernel_rfl) (by kernel_rfl) (fun _ _ _ h => h) (by decide) (Or.inl ⟨by rfl, ?_⟩) hHeld ?_
      rotate_left
      · intro wH hSw; have k0 := (hSw.cell (p := ⟨q, 0, none⟩) hq5).trans h0'; have k1 := (hSw.cell (p := ⟨g, N * 6, none⟩) hg5).trans g0; have k2 := (hSw.cell (p := ⟨g, N * 6 + 1, none⟩) hg5).trans g1; go_simp; try (with_reducible rfl)
      simp only [Act.put, List.setIfInBounds_toArray, List.set_cons_zero, List.set_cons_succ]
      refine AtE.take (i := 38) (v := ?_) rfl (by kernel_rfl) (by kernel_rfl) (by kernel_rfl) (fun _ _ _ h => h) (by decide) (Or.inl ⟨by rfl, ?_⟩) hHeld ?_
      rotate_left
      · intro wH hSw; have k0 := (hSw.cell (p := ⟨q, 0, none⟩) hq5).trans h0'; have k1 := (hSw.cell (p := ⟨g, N * 6, none⟩) hg5).trans g0; have k2 := (hSw.cell (p := ⟨g, N * 6 + 1, none⟩) hg5).trans g1; go_simp; try (with_reducible rfl)
      simp only [Act.put, List.setIfInBounds_toArray, List.set_cons_zero, List.set_cons_succ]
      refine AtE.take (i := 39) (v := ?_) rfl (by kernel_rfl) (by kernel_rfl) (by kernel_rfl) (fun _ _ _ h => h) (by decide) (Or.inl ⟨by rfl, ?_⟩) hHeld ?_
      rotate_left
      · intro wH hSw; have k0 := (hSw.cell (p := ⟨q, 0, none⟩) hq5).trans h0'; have k1 := (hSw.cell (p := ⟨g, N * 6, none⟩) hg5).trans g0; have k2 := (hSw.cell (p := ⟨g, N * 6 + 1, none⟩) hg5).trans g1; go_simp; try (with_reducible rfl)
      simp only [Act.put, List.setIfInBounds_toArray, List.set_cons_zero, List.set_cons_succ]
      refine AtE.take (i := 40) (v := ?_) rfl (by kernel_rfl) (by kernel_rfl) (by kernel_rfl) (fun _ _ _ h => h) (by decide) (Or.inl ⟨by rfl, ?_⟩) hHeld ?_
      rotate_left
      · intro wH hSw; have k0 := (hSw.cell (p := ⟨q, 0, none⟩) hq5).trans h0'; have k1 := (hSw.cell (p := ⟨g, N * 6, none⟩) hg5).trans g0; have k2 := (hSw.cell (p := ⟨g, N * 6 + 1, none⟩) hg5).trans g1; go_simp; try (with_reducible rfl)
      simp only [Act.put, List.setIfInBounds_toArray, List.set_cons_zero, List.set_cons_succ]
      refine AtE.take (i := 41) (v := ?_) rfl (by kernel_rfl) (by kernel_rfl) (by kernel_rfl) (fun _ _ _ h => h) (by decide) (Or.inl ⟨by rfl, ?_⟩) hHeld ?_
      rotate_left
      · intro wH hSw; have k0 := (hSw.cell (p := ⟨q, 0, none⟩) hq5).trans h0'; have k1 := (hSw.cell (p := ⟨g, N * 6, none⟩) hg5).trans g0; have k2 := (hSw.cell (p := ⟨g, N * 6 + 1, none⟩) hg5).trans g1; go_simp; try (with_reducible rfl)
      simp only [Act.put, List.setIfInBounds_toArray, List.set_cons_zero, List.set_cons_succ]
      refine AtE.take (i := 42) (v := ?_) rfl (by kernel_rfl) (by kernel_rfl) (by kernel_rfl) (fun _ _ _ h => h) (by decide) (Or.inl ⟨by rfl, ?_⟩) hHeld ?_
      rotate_left
      · intro wH hSw; have k0 := (hSw.cell (p := ⟨q, 0, none⟩) hq5).trans h0'; have k1 := (hSw.cell (p := ⟨g, N * 6, none⟩) hg5).trans g0; have k2 := (hSw.cell (p := ⟨g, N * 6 + 1, none⟩) hg5).trans g1; go_simp; try (with_reducible rfl)
      simp only [Act.put, List.setIfInBounds_toArray, List.set_cons_zero, List.set_cons_succ]
      refine AtE.take (i := 43) (v := ?_) rfl (by kernel_rfl) (by kernel_rfl) (by kernel_rfl) (fun _ _ _ h => h) (by decide) (Or.inl ⟨by rfl, ?_⟩) hHeld ?_
      rotate_left
      · intro wH hSw; have k0 := (hSw.cell (p := ⟨q, 0, none⟩) hq5).trans h0'; have k1 := (hSw.cell (p := ⟨g, N * 6, none⟩) hg5).trans g0; have k2 := (hSw.cell (p := ⟨g, N * 6 + 1, none⟩) hg5).trans g1; go_simp; try (with_reducible rfl)
      simp only [Act.put, List.setIfInBounds_toArray, List.set_cons_zero, List.set_cons_succ]
      refine AtE.take (i := 44) (v := ?_) rfl (by kernel_rfl) (by kernel_rfl) (by kernel_rfl) (fun _ _ _ h => h) (by decide) (Or.inl ⟨by rfl, ?_⟩) hHeld ?_
      rotate_left
      · intro wH hSw; have k0 := (hSw.cell (p := ⟨q, 0, none⟩) hq5).trans h0'; have k1 := (hSw.cell (p := ⟨g, N * 6, none⟩) hg5).trans g0; have k2 := (hSw.cell (p := ⟨g, N * 6 + 1, none⟩) hg5).trans g1; go_simp; try (with_reducible rfl)
      simp only [Act.put, List.setIfInBounds_toArray, List.set_cons_zero, List.set_cons_succ]
      refine AtE.take (i := 45) (v := ?_) rfl (by kernel_rfl) (by kernel_rfl) (by kernel_rfl) (fun _ _ _ h => h) (by decide) (Or.inl ⟨by rfl, ?_⟩) hHeld ?_
      rotate_left
      · intro wH hSw; have k0 := (hSw.cell (p := ⟨q, 0, none⟩) hq5).trans h0'; have k1 := (hSw.cell (p := ⟨g, N * 6, none⟩) hg5).trans g0; have k2 := (hSw.cell (p := ⟨g, N * 6 + 1, none⟩) hg5).trans g1; go_simp; try (with_reducible rfl)
      simp only [Act.put, List.setIfInBounds_toArray, List.set_cons_zero, List.set_cons_succ]
      refine AtE.take (i := 46) (v := ?_) rfl (by kernel_rfl) (by kernel_rfl) (by kernel_rfl) (fun _ _ _ h => h) (by decide) (Or.inl ⟨by rfl, ?_⟩) hHeld ?_
      rotate_left
      · intro wH hSw; have k0 := (hSw.cell (p := ⟨q, 0, none⟩) hq5).trans h0'; have k1 := (hSw.cell (p := ⟨g, N * 6, none⟩) hg5).trans g0; have k2 := (hSw.cell (p := ⟨g, N * 6 + 1, none⟩) hg5).trans g1; go_simp; try (with_reducible rfl)
      simp only [Act.put, List.setIfInBounds_toArray, List.set_cons_zero, List.set_cons_succ]
      refine AtE.take (i := 47) (v := ?_) rfl (by kernel_rfl) (by kernel_rfl) (by kernel_rfl) (fun _ _ _ h => h) (by decide) (Or.inl ⟨by rfl, ?_⟩) hHeld ?_
      rotate_left
      · intro wH hSw; have k0 := (hSw.cell (p := ⟨q, 0, none⟩) hq5).trans h0'; have k1 := (hSw.cell (p := ⟨g, N * 6, none⟩) hg5).trans g0; have k2 := (hSw.cell (p := ⟨g, N * 6 + 1, none⟩) hg5).trans g1; go_simp; try (with_reducible rfl)
      simp only [Act.put, List.setIfInBounds_toArray, List.set_cons_zero, List.set_cons_succ]
      refine AtE.take (i := 48) (v := ?_) rfl (by kernel_rfl) (by kernel_rfl) (by kernel_rfl) (fun _ _ _ h => h) (by decide) (Or.inl ⟨by rfl, ?_⟩) hHeld ?_
      rotate_left
      · intro wH hSw; have k0 := (hSw.cell (p := ⟨q, 0, none⟩) hq5).trans h0'; have k1 := (hSw.cell (p := ⟨g, N * 6, none⟩) hg5).trans g0; have k2 := (hSw.cell (p := ⟨g, N * 6 + 1, none⟩) hg5).trans g1; go_simp; try (with_reducible rfl)
      simp only [Act.put, List.setIfInBounds_toArray, List.set_cons_zero, List.set_cons_succ]
      refine AtE.take (i := 49) (v := undef) rfl (by kernel_rfl) (by kernel_rfl) (by kernel_rfl) (fun _ _ _ h => h) (by decide) (Or.inr ⟨by rfl, rfl⟩) hHeld ?_
      simp only [Act.put, List.setIfInBounds_toArray, List.set_cons_zero, List.set_cons_succ]
      refine AtE.take (i := 50) (v := undef) rfl (by kernel_rfl) (by kernel_rfl) (by kernel_rfl) (fun _ _ _ h => h) (by decide) (Or.inr ⟨by rfl, rfl⟩) hHeld ?_
      simp only [Act.put, List.setIfInBounds_toArray, List.set_cons_zero, List.set_cons_succ]
      refine AtE.take (i := 51) (v := undef) rfl (by kernel_rfl) (by kernel_rfl) (by kernel_rfl) (fun _ _ _ h => h) (by decide) (Or.inr ⟨by rfl, rfl⟩) hHeld ?_
      simp only [Act.put, List.setIfInBounds_toArray, List.set_cons_zero, List.set_cons_succ]
      refine AtE.take (i := 52) (v := undef) rfl (by kernel_rfl) (by kernel_rfl) (by kernel_rfl) (fun _ _ _ h => h) (by decide) (Or.inr ⟨by rfl, rfl⟩) hHeld ?_
      simp only [Act.put, List.setIfInBounds_toArray, List.set_cons_zero, List.set_cons_succ]
      refine AtE.take (i := 53) (v := undef) rfl (by kernel_rfl) (by kernel_rfl) (by kernel_rfl) (fun _ _ _ h => h) (by decide) (Or.inr ⟨by rfl, rfl⟩) hHeld ?_
      simp only [Act.put, List.setIfInBounds_toArray, List.set_cons_zero, List.set_cons_succ]
      refine AtE.take (i := 54) (v := undef) rfl (by kernel_rfl) (by kernel_rfl) (by kernel_rfl) (fun _ _ _ h => h) (by decide) (Or.inr ⟨by rfl, rfl⟩) hHeld ?_
      simp only [Act.put, List.setIfInBounds_toArray, List.set_cons_zero, List.set_cons_succ]
      refine AtE.take (i := 55) (v := ?_) rfl (by kernel_rfl) (by kernel_rfl) (by kernel_rfl) (fun _ _ _ h => h) (by decide) (Or.inl ⟨by rfl, ?_⟩) hHeld ?_
      rotate_left
      · intro wH hSw; have k0 := (hSw.cell (p := ⟨q, 0, none⟩) hq5).trans h0'; have k1 := (hSw.cell (p := ⟨g, N * 6, none⟩) hg5).trans g0; have k2 := (hSw.cell (p := ⟨g, N * 6 + 1, none⟩) hg5).trans g1; go_simp; try (with_reducible rfl)
      simp only [Act.put, List.setIfInBounds_toArray, List.set_cons_zero, List.set_cons_succ]
      refine AtE.one (i := 56) rfl (by kernel_rfl) (fun K hK => ?_)
      go_simp
      refine hK.out _ _ (fun h => absurd rfl h) (fun _ => ?_)
      clear hK K
      refine AtE.done (by kernel_rfl) ?_
      go_wp2
      go_meet
      case rel => exact ⟨rfl, ext_trans HW5.out hHeld⟩
  case rest =>
    obtain ⟨rfl, hbc⟩ := hcut
    have hq0 := (hbc.cell (p := ⟨q, 0, none⟩) hq).trans h0
    have hql := Nat.lt_of_lt_of_le hq hbc.size
    have HCB := Lib.hid hbc
    have HRW := Lib.hid (fun W (hb : Below wc.heap.size wc W) => (HC.out.ext (ext_trans hbc hb)).row)
    have HONE := Lib.hid (cellq_oneCell cs (fun c hc => by obtain ⟨A, k, e⟩ := (HC.out.trees c hc).form; exact ⟨A, _, k, e⟩))
    have HQL := Lib.hid (rowQ_length cs)
    obtain ⟨i0, hi, hz0, hz1, hz2⟩ := info_parts (P := Try.prog) (e := 36) (z := .agg #[.int .i64 0, .int .i64 0, .bool false, .int .i64 0, .int .i64 0, .slice none 0 0]) (size := 6) (bytes := 64) (by kernel_rfl)
    clear HLST h0' hq5 hbc h0 hq e3 HW5
    go_wp2_with (first
      | (at_builtin; (refine wpList_app rfl (.tmp 102) (.tmp 106) 28 rfl 36 i0 _ 6 64 Try.underlying28 hi hz0 hz1 hz2 rfl (by decide) (.slice (some ⟨wc.heap.size, 0, none⟩) 0 0) 0 [] rfl (own_empty wc _ _) A cs.length c (rowQ cs) rfl HQL.out (own_none (HRW.out _ (ext_refl wc))) (own_some (HRW.out _ ((ext_refl wc).alloc (Nat.le_refl _) _))) HONE.out (by unfold maxLen; omega) (by omega) ?_)
         intro A1 c1 X hrow1 hu1 hv1 hz1'
         rw [Nat.zero_add, List.nil_append] at hrow1
         rw [Nat.zero_add] at hv1
         have hbX : Below wc.heap.size wc X := ((ext_refl wc).alloc (Nat.le_refl _) (.cells #[] 36)).trans (hu1.below (B := wc.heap.size) (by simp) (fun j hj e => by simp [Value.ownBlock] at e; omega))
         have HX := Lib.hid (And.intro hrow1 (And.intro hbX (fun j hj => show wc.heap.size ≤ j from (hv1 j hj).elim (fun h => by simp [Value.ownBlock] at h; omega) (fun h => by simp at h; omega))))
         clear hrow1 hu1 hv1 hz1' hbX)
      | (at_builtin; (refine wpList_app rfl (.tmp 108) (.tmp 113) 28 rfl 36 i0 _ 6 64 Try.underlying28 hi hz0 hz1 hz2 rfl (by decide) (.slice A1 cs.length c1) cs.length (rowQ cs) rfl (HX.out.1.alloc _) _ 1 1 (PrC.cellq ⟨⟨r, pl, false, 0, lv, []⟩, .slice none 0 0⟩) rfl rfl (by simp) (cells_newA _ _ _ _ (by simp)) (by simp [Value.oneCell', PrC.cellq]) (by unfold maxLen; omega) (by omega) ?_)
         intro A2 c2 Y hrow2 hu2 hv2 hz2'
         have hbY : Below wc.heap.size wc Y := ((HX.out.2.1.alloc HX.out.2.1.size _)).trans (hu2.below (B := wc.heap.size) (by have := HX.out.2.1.size; simp; omega) (fun j hj e => by have := HX.out.2.2 j e; omega))
         have HY := Lib.hid (And.intro hrow2 hbY)
         clear hrow2 hu2 hv2 hz2' hbY))
    obtain ⟨xs, hxs⟩ : ∃ xs : List PrC, xs = cs ++ [⟨⟨r, pl, false, 0, lv, []⟩, .slice none 0 0⟩] := ⟨_, rfl⟩
    have HXS := Lib.hid (show xs.length = cs.length + 1 ∧ Y.ownsRow 0 36 6 (.slice A2 xs.length c2) xs.length (rowQ xs) ∧ ∀ x ∈ xs, -1099511627776 ≤ x.p.level ∧ x.p.level ≤ 1099511627776 from by
      have hl : xs.length = cs.length + 1 := by rw [hxs]; simp
      refine ⟨hl, ?_, fun x hx => ?_⟩
      · rw [hl, hxs, rowQ_snoc]; exact HY.out.1
      · rw [hxs] at hx
        rcases List.mem_append.1 hx with h | h
        · have := HB.out.pr x.p (by rw [← HL.out]; exact List.mem_map.2 ⟨x, h, rfl⟩)
          exact ⟨this.2.1, this.2.2.1⟩
        · obtain rfl : x = _ := by simpa using h
          exact hlv)
    have hN : (cs.length + 1) = xs.length := HXS.out.1.symm
    rw [hN]
    have HWY := Lib.hid (ext_trans HCB.out HY.out.2)
    have hxl : xs.length ≤ 1000 := by have := HXS.out.1; omega
    clear hN
    clear hxs
    go_loopw [15] (fun i wr => ∃ k : Nat, k ≤ xs.length ∧ i = .int .i64 k ∧ Below Y.heap.size Y wr) (fun i _ => xs.length - (intOf i).toNat)
    case atStart => exact ⟨0, Nat.zero_le _, rfl, ext_refl Y⟩
    case round =>
      obtain ⟨k, hk, rfl, hbr⟩ := hrel
      obtain ⟨W, rfl⟩ : ∃ W : World, W = wr := ⟨_, rfl⟩
      by_cases hlt : k < xs.length
      · have hrw := ownsRow_keep (S := fun _ => False) HXS.out.2.1 (Upd.of_ext hbr) (fun _ _ h => h)
        obtain ⟨g, cg, eg, -, hg⟩ := hrw.form (by omega)
        injection eg with eg1 _ eg3
        subst eg1 eg3
        have hcell : ∀ j, (hj : j < 6) → W.cell? ⟨g, k * 6 + j, none⟩ = some ((xs[k]).cellq[j]'hj) := by
          intro j hj
          have := World.ownsRow.cells hrw rfl (k * 6 + j) _ ((rowQ_at xs k hlt j hj).trans (List.getElem?_eq_getElem hj))
          rw [Addr.add_lit, Nat.zero_add] at this
          exact this
        have x0 := hcell 0 (by omega)
        have x1 := hcell 1 (by omega)
        have x4 := hcell 4 (by omega)
        rw [Nat.add_zero] at x0
        have hlx := HXS.out.2.2 _ (List.getElem_mem hlt)
        have hkl : (k : Int) < (xs.length : Int) := by omega
        have HBR := Lib.hid hbr
        clear hcell hrw hbr
        generalize xs[k] = x at *
        unfold PrC.cellq at x0 x1 x4
        simp only [List.getElem_cons_zero, List.getElem_cons_succ] at x0 x1 x4
        obtain ⟨hl1, hl2⟩ := hlx
        go_wp2
        go_loopw [16] (fun v wr => ∃ j : Nat, j ≤ 3 ∧ v = .int .i64 (x.p.level - 1 + j) ∧ Below W.heap.size W wr) (fun v _ => (3 - (intOf v - (x.p.level - 1))).toNat)
        case atStart => exact ⟨0, by omega, by go_num, ext_refl W⟩
        case round =>
          obtain ⟨j, hj, rfl, hbw⟩ := hrel
          obtain ⟨V, rfl⟩ : ∃ V : World, V = wr := ⟨_, rfl⟩
          have y0 := (hbw.cell (p := ⟨g, k * 6, none⟩) hg).trans x0
          have y1 := (hbw.cell (p := ⟨g, k * 6 + 1, none⟩) hg).trans x1
          have y4 := (hbw.cell (p := ⟨g, k * 6 + 4, none⟩) hg).trans x4
          have hgV := Nat.lt_of_lt_of_le hg hbw.size
          have HBW := Lib.hid hbw
          clear hbw
          by_cases hj3 : j < 3
          · have hlt3 : x.p.level - 1 + (j : Int) < x.p.level + 2 := by omega
            have HRk := Lib.hid (fun V' (h : Below V.heap.size V V') => HRD.out V' (ext_trans HWY.out (ext_trans HBR.out (ext_trans HBW.out h))) x.p.rule x.p.place (x.p.level - 1 + j))
            have HRr := Lib.hid (fun V' (h : Below V.heap.size V V') => HRR.out V' (ext_trans HWY.out (ext_trans HBR.out (ext_trans HBW.out h))) x.p.rule x.p.place (x.p.level - 1 + j))
            have hres := HTR.out x.p.rule x.p.place (x.p.level - 1 + j)
            generalize readA l x.p.rule x.p.place (x.p.level - 1 + j) = res at *
            go_upto_region 14 with (fail)
            go_cut [17, 18] from 137 to 152 (fun xv tv wx => ∃ b A c, xv = .pointer (some ⟨b, 0, none⟩) ∧ tv = .int .i64 res.2 ∧ Blk wx b 42 #[.int .i64 res.1.end_, .int .i64 res.1.level, .slice A res.1.tree.length c] ∧ RowT wx (.slice A res.1.tree.length c) res.1.tree ∧ (∀ k, (Value.slice A res.1.tree.length c).ownBlock = some k → V.heap.size ≤ k) ∧ Below V.heap.size V wx)
            case first =>
              refine AtE.start (S := fun w' => Below V.heap.size V w') 18 (by kernel_rfl) (by kernel_rfl) (by exact (ext_refl V).drew) (fun hHeld => ?_)
              refine AtE.take (i := 0) (v := ?_) rfl (by kernel_rfl) (by kernel_rfl) (by kernel_rfl) (fun _ _ _ h => h) (by decide) (Or.inl ⟨by rfl, ?_⟩) hHeld ?_
              rotate_left
              · intro wH hSw; have k1 := (hSw.cell (p := ⟨g, k * 6, none⟩) hgV).trans y0; have k2 := (hSw.cell (p := ⟨g, k * 6 + 1, none⟩) hgV).trans y1; go_simp; try (with_reducible rfl)
              simp only [Act.put, List.setIfInBounds_toArray, List.set_cons_zero, List.set_cons_succ]
              refine AtE.take (i := 1) (v := ?_) rfl (by kernel_rfl) (by kernel_rfl) (by kernel_rfl) (fun _ _ _ h => h) (by decide) (Or.inl ⟨by rfl, ?_⟩) hHeld ?_
              rotate_left
              · intro wH hSw; have k1 := (hSw.cell (p := ⟨g, k * 6, none⟩) hgV).trans y0; have k2 := (hSw.cell (p := ⟨g, k * 6 + 1, none⟩) hgV).trans y1; go_simp; try (with_reducible rfl)
              simp only [Act.put, List.setIfInBounds_toArray, List.set_cons_zero, List.set_cons_succ]
              refine AtE.take (i := 2) (v := ?_) rfl (by kernel_rfl) (by kernel_rfl) (by kernel_rfl) (fun _ _ _ h => h) (by decide) (Or.inl ⟨by rfl, ?_⟩) hHeld ?_
              rotate_left
              · intro wH hSw; have k1 := (hSw.cell (p := ⟨g, k * 6, none⟩) hgV).trans y0; have k2 := (hSw.cell (p := ⟨g, k * 6 + 1, none⟩) hgV).trans y1; go_simp; try (with_reducible rfl)
              simp only [Act.put, List.setIfInBounds_toArray, List.set_cons_zero, List.set_cons_succ]
              refine AtE.take (i := 3) (v := ?_) rfl (by kernel_rfl) (by kernel_rfl) (by kernel_rfl) (fun _ _ _ h => h) (by decide) (Or.inl ⟨by rfl, ?_⟩) hHeld ?_
              rotate_left
              · intro wH hSw; have k1 := (hSw.cell (p := ⟨g, k * 6, none⟩) hgV).trans y0; have k2 := (hSw.cell (p := ⟨g, k * 6 + 1, none⟩) hgV).trans y1; go_simp; try (with_reducible rfl)
              simp only [Act.put, List.setIfInBounds_toArray, List.set_cons_zero, List.set_cons_succ]
              refine AtE.take (i := 4) (v := ?_) rfl (by kernel_rfl) (by kernel_rfl) (by kernel_rfl) (fun _ _ _ h => h) (by decide) (Or.inl ⟨by rfl, ?_⟩) hHeld ?_
              rotate_left
              · intro wH hSw; have k1 := (hSw.cell (p := ⟨g, k * 6, none⟩) hgV).trans y0; have k2 := (hSw.cell (p := ⟨g, k * 6 + 1, none⟩) hgV).trans y1; go_simp; try (with_reducible rfl)
              simp only [Act.put, List.setIfInBounds_toArray, List.set_cons_zero, List.set_cons_succ]
              refine AtE.take (i := 5) (v := ?_) rfl (by kernel_rfl) (by kernel_rfl) (by kernel_rfl) (fun _ _ _ h => h) (by decide) (Or.inl ⟨by rfl, ?_⟩) hHeld ?_
              rotate_left
              · intro wH hSw; have k1 := (hSw.cell (p := ⟨g, k * 6, none⟩) hgV).trans y0; have k2 := (hSw.cell (p := ⟨g, k * 6 + 1, none⟩) hgV).trans y1; go_simp; try (with_reducible rfl)
              simp only [Act.put, List.setIfInBounds_toArray, List.set_cons_zero, List.set_cons_succ]
              refine AtE.take (i := 6) (v := ?_) rfl (by kernel_rfl) (by kernel_rfl) (by kernel_rfl) (fun _ _ _ h => h) (by decide) (Or.inl ⟨by rfl, ?_⟩) hHeld ?_
              rotate_left
              · intro wH hSw; have k1 := (hSw.cell (p := ⟨g, k * 6, none⟩) hgV).trans y0; have k2 := (hSw.cell (p := ⟨g, k * 6 + 1, none⟩) hgV).trans y1; go_simp; try (with_reducible rfl)
              simp only [Act.put, List.setIfInBounds_toArray, List.set_cons_zero, List.set_cons_succ]
              refine AtE.take (i := 7) (v := ?_) rfl (by kernel_rfl) (by kernel_rfl) (by kernel_rfl) (fun _ _ _ h => h) (by decide) (Or.inl ⟨by rfl, ?_⟩) hHeld ?_
              rotate_left
              · intro wH hSw; have k1 := (hSw.cell (p := ⟨g, k * 6, none⟩) hgV).trans y0; have k2 := (hSw.cell (p := ⟨g, k * 6 + 1, none⟩) hgV).trans y1; go_simp; try (with_reducible rfl)
              simp only [Act.put, List.setIfInBounds_toArray, List.set_cons_zero, List.set_cons_succ]
              refine AtE.take (i := 8) (v := ?_) rfl (by kernel_rfl) (by kernel_rfl) (by kernel_rfl) (fun _ _ _ h => h) (by decide) (Or.inl ⟨by rfl, ?_⟩) hHeld ?_
              rotate_left
              · intro wH hSw; have k1 := (hSw.cell (p := ⟨g, k * 6, none⟩) hgV).trans y0; have k2 := (hSw.cell (p := ⟨g, k * 6 + 1, none⟩) hgV).trans y1; go_simp; try (with_reducible rfl)
              simp only [Act.put, List.setIfInBounds_toArray, List.set_cons_zero, List.set_cons_succ]
              refine AtE.take (i := 9) (v := ?_) rfl (by kernel_rfl) (by kernel_rfl) (by kernel_rfl) (fun _ _ _ h => h) (by decide) (Or.inl ⟨by rfl, ?_⟩) hHeld ?_
              rotate_left
              · intro wH hSw; have k1 := (hSw.cell (p := ⟨g, k * 6, none⟩) hgV).trans y0; have k2 := (hSw.cell (p := ⟨g, k * 6 + 1, none⟩) hgV).trans y1; go_simp; try (with_reducible rfl)
              simp only [Act.put, List.setIfInBounds_toArray, List.set_cons_zero, List.set_cons_succ]
              refine AtE.take (i := 10) (v := ?_) rfl (by kernel_rfl) (by kernel_rfl) (by kernel_rfl) (fun _ _ _ h => h) (by decide) (Or.inl ⟨by rfl, ?_⟩) hHeld ?_
              rotate_left
              · intro wH hSw; have k1 := (hSw.cell (p := ⟨g, k * 6, none⟩) hgV).trans y0; have k2 := (hSw.cell (p := ⟨g, k * 6 + 1, none⟩) hgV).trans y1; go_simp; try (with_reducible rfl)
              simp only [Act.put, List.setIfInBounds_toArray, List.set_cons_zero, List.set_cons_succ]
              refine AtE.take (i := 11) (v := ?_) rfl (by kernel_rfl) (by kernel_rfl) (by kernel_rfl) (fun _ _ _ h => h) (by decide) (Or.inl ⟨by rfl, ?_⟩) hHeld ?_
              rotate_left
              · intro wH hSw; have k1 := (hSw.cell (p := ⟨g, k * 6, none⟩) hgV).trans y0; have k2 := (hSw.cell (p := ⟨g, k * 6 + 1, none⟩) hgV).trans y1; go_simp; try (with_reducible rfl)
              simp only [Act.put, List.setIfInBounds_toArray, List.set_cons_zero, List.set_cons_succ]
              refine AtE.two (i := 12) (j := 16) rfl rfl (by kernel_rfl) (fun K hK => ?_) (fun K hK => ?_)
              · go_simp
                refine (HRk.out _ hHeld).mono ?_
                rintro e Z ⟨Ax, cx, rfl, hu, hun, hbZ⟩
                have HU := Lib.hid (And.intro hu (And.intro hun (And.intro hHeld hbZ)))
                refine hK.out _ _ (fun _ => ext_trans hHeld hbZ) (fun hHeld' => ?_)
                clear hHeld hu hun hbZ
                have hHeld := hHeld' (by decide)
                clear hK K hHeld'
                refine AtE.take (i := 13) (v := ?_) rfl (by kernel_rfl) (by kernel_rfl) (by kernel_rfl) (fun _ _ _ h => h) (by decide) (Or.inl ⟨by rfl, ?_⟩) hHeld ?_
                rotate_left
                · intro wH hSw; have k1 := (hSw.cell (p := ⟨g, k * 6, none⟩) hgV).trans y0; have k2 := (hSw.cell (p := ⟨g, k * 6 + 1, none⟩) hgV).trans y1; go_simp; try (with_reducible rfl)
                simp only [Act.put, List.setIfInBounds_toArray, List.set_cons_zero, List.set_cons_succ]
                refine AtE.take (i := 14) (v := ?_) rfl (by kernel_rfl) (by kernel_rfl) (by kernel_rfl) (fun _ _ _ h => h) (by decide) (Or.inl ⟨by rfl, ?_⟩) hHeld ?_
                rotate_left
                · intro wH hSw; have k1 := (hSw.cell (p := ⟨g, k * 6, none⟩) hgV).trans y0; have k2 := (hSw.cell (p := ⟨g, k * 6 + 1, none⟩) hgV).trans y1; go_simp; try (with_reducible rfl)
                simp only [Act.put, List.setIfInBounds_toArray, List.set_cons_zero, List.set_cons_succ]
                refine AtE.take (i := 15) (v := ?_) rfl (by kernel_rfl) (by kernel_rfl) (by kernel_rfl) (fun _ _ _ h => h) (by decide) (Or.inl ⟨by rfl, ?_⟩) hHeld ?_
                rotate_left
                · intro wH hSw; have k1 := (hSw.cell (p := ⟨g, k * 6, none⟩) hgV).trans y0; have k2 := (hSw.cell (p := ⟨g, k * 6 + 1, none⟩) hgV).trans y1; go_simp; try (with_reducible rfl)
                simp only [Act.put, List.setIfInBounds_toArray, List.set_cons_zero, List.set_cons_succ]
                refine AtE.one (i := 16) rfl (by kernel_rfl) (fun K hK => ?_)
                go_simp
                refine hK.out _ _ (fun _ => ext_trans hHeld ((ext_refl _).alloc (Nat.le_refl _) _)) (fun hHeld' => ?_)
                have HBX := Lib.hid hHeld.size
                clear hHeld
                have hHeld := hHeld' (by decide)
                clear hK K hHeld'
                refine AtE.one (i := 17) rfl (by kernel_rfl) (fun K hK => ?_)
                try (have hBz := (show Blk _ V.heap.size 42 #[.int .i64 0, .int .i64 0, .slice none 0 0] from Blk.at_ V.drew _ _ rfl).ext HU.out.2.2.2; have q0 := hBz.cell 0; have q1 := hBz.cell 1; have q2 := hBz.cell 2; have f0 := hBz.frozen 0; have f1 := hBz.frozen 1; have f2 := hBz.frozen 2; have ql := hBz.lt; have HBZ := Lib.hid hBz; clear hBz)
                go_simp
                refine hK.out _ _ (fun _ => by first | (have hzz := HBZ.out; exact ((hHeld.setCell (p := ⟨V.heap.size, 0, none⟩) (Nat.le_refl _) _).setCell (p := ⟨V.heap.size, 1, none⟩) (Nat.le_refl _) _).setCell (p := ⟨V.heap.size, 2, none⟩) (Nat.le_refl _) _) | exact ext_trans HU.out.2.2.1 (ext_trans HU.out.2.2.2 ((ext_refl _).alloc (Nat.le_refl _) _))) (fun hHeld' => ?_)
                clear hHeld
                have hHeld := hHeld' (by decide)
                clear hK K hHeld'
                refine AtE.one (i := 18) rfl (by kernel_rfl) (fun K hK => ?_)
                go_simp
                refine hK.out _ _ (fun h => absurd rfl h) (fun _ => ?_)
                clear hK K
                refine AtE.done (by kernel_rfl) ?_
                go_wp2
                go_meet
                case rel =>
                  obtain ⟨hu, hun, hb1, hb2⟩ := HU.out
                  have hz1 := hb1.size
                  first
                    | (have hzz := HBZ.out; exact ⟨V.heap.size, Ax, cx, rfl, rfl, by simpa using ((HBZ.out.set_ 0 _).set_ 1 _).set_ 2 _, hu.keep (S := (· = V.heap.size)) (((setCell_upd Z V.heap.size 0 _).setCell (p := ⟨V.heap.size, 1, none⟩) (fun _ => rfl) _).setCell (p := ⟨V.heap.size, 2, none⟩) (fun _ => rfl) _) (fun j hj e => by have := hun j hj; simp at this; omega), fun j hj => by have := hun j hj; omega, hHeld⟩)
                    | exact ⟨Z.heap.size, Ax, cx, rfl, rfl, Blk.new _ _ _, hu.alloc _, fun j hj => by have := hun j hj; omega, hHeld⟩
              · go_simp
                refine hK.out _ _ (fun _ => ext_trans hHeld ((ext_refl _).alloc (Nat.le_refl _) _)) (fun hHeld' => ?_)
                have HBX := Lib.hid hHeld.size
                clear hHeld
                have hHeld := hHeld' (by decide)
                clear hK K hHeld'
                refine AtE.one (i := 12) rfl (by kernel_rfl) (fun K hK => ?_)
                go_simp
                refine (HRk.out _ hHeld).mono ?_
                rintro e Z ⟨Ax, cx, rfl, hu, hun, hbZ⟩
                have HU := Lib.hid (And.intro hu (And.intro hun (And.intro hHeld hbZ)))
                refine hK.out _ _ (fun _ => ext_trans hHeld hbZ) (fun hHeld' => ?_)
                clear hHeld hu hun hbZ
                have hHeld := hHeld' (by decide)
                clear hK K hHeld'
                refine AtE.take (i := 13) (v := ?_) rfl (by kernel_rfl) (by kernel_rfl) (by kernel_rfl) (fun _ _ _ h => h) (by decide) (Or.inl ⟨by rfl, ?_⟩) hHeld ?_
                rotate_left
                · intro wH hSw; have k1 := (hSw.cell (p := ⟨g, k * 6, none⟩) hgV).trans y0; have k2 := (hSw.cell (p := ⟨g, k * 6 + 1, none⟩) hgV).trans y1; go_simp; try (with_reducible rfl)
                simp only [Act.put, List.setIfInBounds_toArray, List.set_cons_zero, List.set_cons_succ]
                refine AtE.take (i := 14) (v := ?_) rfl (by kernel_rfl) (by kernel_rfl) (by kernel_rfl) (fun _ _ _ h => h) (by decide) (Or.inl ⟨by rfl, ?_⟩) hHeld ?_
                rotate_left
                · intro wH hSw; have k1 := (hSw.cell (p := ⟨g, k * 6, none⟩) hgV).trans y0; have k2 := (hSw.cell (p := ⟨g, k * 6 + 1, none⟩) hgV).trans y1; go_simp; try (with_reducible rfl)
                simp only [Act.put, List.setIfInBounds_toArray, List.set_cons_zero, List.set_cons_succ]
                refine AtE.take (i := 15) (v := ?_) rfl (by kernel_rfl) (by kernel_rfl) (by kernel_rfl) (fun _ _ _ h => h) (by decide) (Or.inl ⟨by rfl, ?_⟩) hHeld ?_
                rotate_left
                · intro wH hSw; have k1 := (hSw.cell (p := ⟨g, k * 6, none⟩) hgV).trans y0; have k2 := (hSw.cell (p := ⟨g, k * 6 + 1, none⟩) hgV).trans y1; go_simp; try (with_reducible rfl)
                simp only [Act.put, List.setIfInBounds_toArray, List.set_cons_zero, List.set_cons_succ]
                refine AtE.one (i := 17) rfl (by kernel_rfl) (fun K hK => ?_)
                try (have hBz := (show Blk _ V.heap.size 42 #[.int .i64 0, .int .i64 0, .slice none 0 0] from Blk.at_ V.drew _ _ rfl).ext HU.out.2.2.2; have q0 := hBz.cell 0; have q1 := hBz.cell 1; have q2 := hBz.cell 2; have f0 := hBz.frozen 0; have f1 := hBz.frozen 1; have f2 := hBz.frozen 2; have ql := hBz.lt; have HBZ := Lib.hid hBz; clear hBz)
                go_simp
                refine hK.out _ _ (fun _ => by first | (have hzz := HBZ.out; exact ((hHeld.setCell (p := ⟨V.heap.size, 0, none⟩) (Nat.le_refl _) _).setCell (p := ⟨V.heap.size, 1, none⟩) (Nat.le_refl _) _).setCell (p := ⟨V.heap.size, 2, none⟩) (Nat.le_refl _) _) | exact ext_trans HU.out.2.2.1 (ext_trans HU.out.2.2.2 ((ext_refl _).alloc (Nat.le_refl _) _))) (fun hHeld' => ?_)
                clear hHeld
                have hHeld := hHeld' (by decide)
                clear hK K hHeld'
                refine AtE.one (i := 18) rfl (by kernel_rfl) (fun K hK => ?_)
                go_simp
                refine hK.out _ _ (fun h => absurd rfl h) (fun _ => ?_)
                clear hK K
                refine AtE.done (by kernel_rfl) ?_
                go_wp2
                go_meet
                case rel =>
                  obtain ⟨hu, hun, hb1, hb2⟩ := HU.out
                  have hz1 := hb1.size
                  first
                    | (have hzz := HBZ.out; exact ⟨V.heap.size, Ax, cx, rfl, rfl, by simpa using ((HBZ.out.set_ 0 _).set_ 1 _).set_ 2 _, hu.keep (S := (· = V.heap.size)) (((setCell_upd Z V.heap.size 0 _).setCell (p := ⟨V.heap.size, 1, none⟩) (fun _ => rfl) _).setCell (p := ⟨V.heap.size, 2, none⟩) (fun _ => rfl) _) (fun j hj e => by have := hun j hj; simp at this; omega), fun j hj => by have := hun j hj; omega, hHeld⟩)
                    | exact ⟨Z.heap.size, Ax, cx, rfl, rfl, Blk.new _ _ _, hu.alloc _, fun j hj => by have := hun j hj; omega, hHeld⟩
            case rest =>
              obtain ⟨b, A1, n1, rfl, rfl, hbx, htx, hnx, hbV⟩ := hcut
              obtain ⟨X, rfl⟩ : ∃ X : World, X = wc := ⟨_, rfl⟩
              have y0 := (hbV.cell (p := ⟨g, k * 6, none⟩) hgV).trans y0
              have y1 := (hbV.cell (p := ⟨g, k * 6 + 1, none⟩) hgV).trans y1
              have hgX := Nat.lt_of_lt_of_le hgV hbV.size
              have HXX := Lib.hid (And.intro hbx (And.intro htx (And.intro hnx hbV)))
              clear hbx htx hnx hbV
              go_upto_region 15 with (fail)
              go_cut [19, 20] from 153 to 168 (fun yv tv wx => ∃ (b2 : Nat) (z : Pr) (A2 : Option Addr) (m2 c2 : Nat), yv = .pointer (some ⟨b2, 0, none⟩) ∧ tv = .int .i64 res.2 ∧ Blk wx b2 36 #[.int .i64 z.rule, .int .i64 z.place, .bool z.has, .int .i64 res.1.end_, .int .i64 res.1.level, .slice A2 m2 c2] ∧ RowT wx (.slice A2 m2 c2) res.1.tree ∧ Below X.heap.size X wx)
              case first =>
                refine AtE.start (S := fun w' => Below X.heap.size X w') 18 (by kernel_rfl) (by kernel_rfl) (by exact (ext_refl X).drew) (fun hHeld => ?_)
                refine AtE.take (i := 0) (v := ?_) rfl (by kernel_rfl) (by kernel_rfl) (by kernel_rfl) (fun _ _ _ h => h) (by decide) (Or.inl ⟨by rfl, ?_⟩) hHeld ?_
                rotate_left
                · intro wH hSw; have k1 := (hSw.cell (p := ⟨g, k * 6, none⟩) hgX).trans y0; have k2 := (hSw.cell (p := ⟨g, k * 6 + 1, none⟩) hgX).trans y1; go_simp; try (with_reducible rfl)
                simp only [Act.put, List.setIfInBounds_toArray, List.set_cons_zero, List.set_cons_succ]
                refine AtE.take (i := 1) (v := ?_) rfl (by kernel_rfl) (by kernel_rfl) (by kernel_rfl) (fun _ _ _ h => h) (by decide) (Or.inl ⟨by rfl, ?_⟩) hHeld ?_
                rotate_left
                · intro wH hSw; have k1 := (hSw.cell (p := ⟨g, k * 6, none⟩) hgX).trans y0; have k2 := (hSw.cell (p := ⟨g, k * 6 + 1, none⟩) hgX).trans y1; go_simp; try (with_reducible rfl)
                simp only [Act.put, List.setIfInBounds_toArray, List.set_cons_zero, List.set_cons_succ]
                refine AtE.take (i := 2) (v := ?_) rfl (by kernel_rfl) (by kernel_rfl) (by kernel_rfl) (fun _ _ _ h => h) (by decide) (Or.inl ⟨by rfl, ?_⟩) hHeld ?_
                rotate_left
                · intro wH hSw; have k1 := (hSw.cell (p := ⟨g, k * 6, none⟩) hgX).trans y0; have k2 := (hSw.cell (p := ⟨g, k * 6 + 1, none⟩) hgX).trans y1; go_simp; try (with_reducible rfl)
                simp only [Act.put, List.setIfInBounds_toArray, List.set_cons_zero, List.set_cons_succ]
                refine AtE.take (i := 3) (v := ?_) rfl (by kernel_rfl) (by kernel_rfl) (by kernel_rfl) (fun _ _ _ h => h) (by decide) (Or.inl ⟨by rfl, ?_⟩) hHeld ?_
                rotate_left
                · intro wH hSw; have k1 := (hSw.cell (p := ⟨g, k * 6, none⟩) hgX).trans y0; have k2 := (hSw.cell (p := ⟨g, k * 6 + 1, none⟩) hgX).trans y1; go_simp; try (with_reducible rfl)
                simp only [Act.put, List.setIfInBounds_toArray, List.set_cons_zero, List.set_cons_succ]
                refine AtE.take (i := 4) (v := ?_) rfl (by kernel_rfl) (by kernel_rfl) (by kernel_rfl) (fun _ _ _ h => h) (by decide) (Or.inl ⟨by rfl, ?_⟩) hHeld ?_
                rotate_left
                · intro wH hSw; have k1 := (hSw.cell (p := ⟨g, k * 6, none⟩) hgX).trans y0; have k2 := (hSw.cell (p := ⟨g, k * 6 + 1, none⟩) hgX).trans y1; go_simp; try (with_reducible rfl)
                simp only [Act.put, List.setIfInBounds_toArray, List.set_cons_zero, List.set_cons_succ]
                refine AtE.take (i := 5) (v := ?_) rfl (by kernel_rfl) (by kernel_rfl) (by kernel_rfl) (fun _ _ _ h => h) (by decide) (Or.inl ⟨by rfl, ?_⟩) hHeld ?_
                rotate_left
                · intro wH hSw; have k1 := (hSw.cell (p := ⟨g, k * 6, none⟩) hgX).trans y0; have k2 := (hSw.cell (p := ⟨g, k * 6 + 1, none⟩) hgX).trans y1; go_simp; try (with_reducible rfl)
                simp only [Act.put, List.setIfInBounds_toArray, List.set_cons_zero, List.set_cons_succ]
                refine AtE.take (i := 6) (v := ?_) rfl (by kernel_rfl) (by kernel_rfl) (by kernel_rfl) (fun _ _ _ h => h) (by decide) (Or.inl ⟨by rfl, ?_⟩) hHeld ?_
                rotate_left
                · intro wH hSw; have k1 := (hSw.cell (p := ⟨g, k * 6, none⟩) hgX).trans y0; have k2 := (hSw.cell (p := ⟨g, k * 6 + 1, none⟩) hgX).trans y1; go_simp; try (with_reducible rfl)
                simp only [Act.put, List.setIfInBounds_toArray, List.set_cons_zero, List.set_cons_succ]
                refine AtE.take (i := 7) (v := ?_) rfl (by kernel_rfl) (by kernel_rfl) (by kernel_rfl) (fun _ _ _ h => h) (by decide) (Or.inl ⟨by rfl, ?_⟩) hHeld ?_
                rotate_left
                · intro wH hSw; have k1 := (hSw.cell (p := ⟨g, k * 6, none⟩) hgX).trans y0; have k2 := (hSw.cell (p := ⟨g, k * 6 + 1, none⟩) hgX).trans y1; go_simp; try (with_reducible rfl)
                simp only [Act.put, List.setIfInBounds_toArray, List.set_cons_zero, List.set_cons_succ]
                refine AtE.take (i := 8) (v := ?_) rfl (by kernel_rfl) (by kernel_rfl) (by kernel_rfl) (fun _ _ _ h => h) (by decide) (Or.inl ⟨by rfl, ?_⟩) hHeld ?_
                rotate_left
                · intro wH hSw; have k1 := (hSw.cell (p := ⟨g, k * 6, none⟩) hgX).trans y0; have k2 := (hSw.cell (p := ⟨g, k * 6 + 1, none⟩) hgX).trans y1; go_simp; try (with_reducible rfl)
                simp only [Act.put, List.setIfInBounds_toArray, List.set_cons_zero, List.set_cons_succ]
                refine AtE.take (i := 9) (v := ?_) rfl (by kernel_rfl) (by kernel_rfl) (by kernel_rfl) (fun _ _ _ h => h) (by decide) (Or.inl ⟨by rfl, ?_⟩) hHeld ?_
                rotate_left
                · intro wH hSw; have k1 := (hSw.cell (p := ⟨g, k * 6, none⟩) hgX).trans y0; have k2 := (hSw.cell (p := ⟨g, k * 6 + 1, none⟩) hgX).trans y1; go_simp; try (with_reducible rfl)
                simp only [Act.put, List.setIfInBounds_toArray, List.set_cons_zero, List.set_cons_succ]
                refine AtE.take (i := 10) (v := ?_) rfl (by kernel_rfl) (by kernel_rfl) (by kernel_rfl) (fun _ _ _ h => h) (by decide) (Or.inl ⟨by rfl, ?_⟩) hHeld ?_
                rotate_left
                · intro wH hSw; have k1 := (hSw.cell (p := ⟨g, k * 6, none⟩) hgX).trans y0; have k2 := (hSw.cell (p := ⟨g, k * 6 + 1, none⟩) hgX).trans y1; go_simp; try (with_reducible rfl)
                simp only [Act.put, List.setIfInBounds_toArray, List.set_cons_zero, List.set_cons_succ]
                refine AtE.take (i := 11) (v := ?_) rfl (by kernel_rfl) (by kernel_rfl) (by kernel_rfl) (fun _ _ _ h => h) (by decide) (Or.inl ⟨by rfl, ?_⟩) hHeld ?_
                rotate_left
                · intro wH hSw; have k1 := (hSw.cell (p := ⟨g, k * 6, none⟩) hgX).trans y0; have k2 := (hSw.cell (p := ⟨g, k * 6 + 1, none⟩) hgX).trans y1; go_simp; try (with_reducible rfl)
                simp only [Act.put, List.setIfInBounds_toArray, List.set_cons_zero, List.set_cons_succ]
                refine AtE.two (i := 12) (j := 16) rfl rfl (by kernel_rfl) (fun K hK => ?_) (fun K hK => ?_)
                · go_simp
                  refine (HRr.out _ (ext_trans HXX.out.2.2.2 hHeld)).mono ?_
                  rintro e Z ⟨z, Ay, my, cy, rfl, hu, hbZ⟩
                  have HU := Lib.hid (And.intro hu (And.intro hHeld hbZ))
                  refine hK.out _ _ (fun _ => ext_trans hHeld hbZ) (fun hHeld' => ?_)
                  clear hHeld hu hbZ
                  have hHeld := hHeld' (by decide)
                  clear hK K hHeld'
                  refine AtE.take (i := 13) (v := ?_) rfl (by kernel_rfl) (by kernel_rfl) (by kernel_rfl) (fun _ _ _ h => h) (by decide) (Or.inl ⟨by rfl, ?_⟩) hHeld ?_
                  rotate_left
                  · intro wH hSw; have k1 := (hSw.cell (p := ⟨g, k * 6, none⟩) hgX).trans y0; have k2 := (hSw.cell (p := ⟨g, k * 6 + 1, none⟩) hgX).trans y1; go_simp; try (with_reducible rfl)
                  simp only [Act.put, List.setIfInBounds_toArray, List.set_cons_zero, List.set_cons_succ]
                  refine AtE.take (i := 14) (v := ?_) rfl (by kernel_rfl) (by kernel_rfl) (by kernel_rfl) (fun _ _ _ h => h) (by decide) (Or.inl ⟨by rfl, ?_⟩) hHeld ?_
                  rotate_left
                  · intro wH hSw; have k1 := (hSw.cell (p := ⟨g, k * 6, none⟩) hgX).trans y0; have k2 := (hSw.cell (p := ⟨g, k * 6 + 1, none⟩) hgX).trans y1; go_simp; try (with_reducible rfl)
                  simp only [Act.put, List.setIfInBounds_toArray, List.set_cons_zero, List.set_cons_succ]
                  refine AtE.take (i := 15) (v := ?_) rfl (by kernel_rfl) (by kernel_rfl) (by kernel_rfl) (fun _ _ _ h => h) (by decide) (Or.inl ⟨by rfl, ?_⟩) hHeld ?_
                  rotate_left
                  · intro wH hSw; have k1 := (hSw.cell (p := ⟨g, k * 6, none⟩) hgX).trans y0; have k2 := (hSw.cell (p := ⟨g, k * 6 + 1, none⟩) hgX).trans y1; go_simp; try (with_reducible rfl)
                  simp only [Act.put, List.setIfInBounds_toArray, List.set_cons_zero, List.set_cons_succ]
                  refine AtE.one (i := 16) rfl (by kernel_rfl) (fun K hK => ?_)
                  go_simp
                  refine hK.out _ _ (fun _ => ext_trans hHeld ((ext_refl _).alloc (Nat.le_refl _) _)) (fun hHeld' => ?_)
                  clear hHeld
                  have hHeld := hHeld' (by decide)
                  clear hK K hHeld'
                  refine AtE.one (i := 17) rfl (by kernel_rfl) (fun K hK => ?_)
                  try (have hBz := (show Blk _ X.heap.size 36 #[.int .i64 0, .int .i64 0, .bool false, .int .i64 0, .int .i64 0, .slice none 0 0] from Blk.at_ X.drew _ _ rfl).ext HU.out.2.2; have q0 := hBz.cell 0; have q1 := hBz.cell 1; have q2 := hBz.cell 2; have q3 := hBz.cell 3; have q4 := hBz.cell 4; have q5 := hBz.cell 5; have f0 := hBz.frozen 0; have f1 := hBz.frozen 1; have f2 := hBz.frozen 2; have f3 := hBz.frozen 3; have f4 := hBz.frozen 4; have f5 := hBz.frozen 5; have ql := hBz.lt; have HBZ := Lib.hid hBz; clear hBz)
                  go_simp
                  refine hK.out _ _ (fun _ => by first | (have hzz := HBZ.out; exact (((((hHeld.setCell (p := ⟨X.heap.size, 0, none⟩) (Nat.le_refl _) _).setCell (p := ⟨X.heap.size, 1, none⟩) (Nat.le_refl _) _).setCell (p := ⟨X.heap.size, 2, none⟩) (Nat.le_refl _) _).setCell (p := ⟨X.heap.size, 3, none⟩) (Nat.le_refl _) _).setCell (p := ⟨X.heap.size, 4, none⟩) (Nat.le_refl _) _).setCell (p := ⟨X.heap.size, 5, none⟩) (Nat.le_refl _) _) | exact ext_trans HU.out.2.1 (ext_trans HU.out.2.2 ((ext_refl _).alloc (Nat.le_refl _) _))) (fun hHeld' => ?_)
                  clear hHeld
                  have hHeld := hHeld' (by decide)
                  clear hK K hHeld'
                  refine AtE.one (i := 18) rfl (by kernel_rfl) (fun K hK => ?_)
                  go_simp
                  refine hK.out _ _ (fun h => absurd rfl h) (fun _ => ?_)
                  clear hK K
                  refine AtE.done (by kernel_rfl) ?_
                  go_wp2
                  go_meet
                  case rel =>
                    obtain ⟨hu, hb1, hb2⟩ := HU.out
                    first
                      | (have hzz := HBZ.out; exact ⟨X.heap.size, z, Ay, my, cy, rfl, rfl, by simpa using (((((HBZ.out.set_ 0 _).set_ 1 _).set_ 2 _).set_ 3 _).set_ 4 _).set_ 5 _, hu.keep (S := (· = X.heap.size)) ((((((setCell_upd Z X.heap.size 0 _).setCell (p := ⟨X.heap.size, 1, none⟩) (fun _ => rfl) _).setCell (p := ⟨X.heap.size, 2, none⟩) (fun _ => rfl) _).setCell (p := ⟨X.heap.size, 3, none⟩) (fun _ => rfl) _).setCell (p := ⟨X.heap.size, 4, none⟩) (fun _ => rfl) _).setCell (p := ⟨X.heap.size, 5, none⟩) (fun _ => rfl) _) (fun j hj e => hu.ne HBZ.out (by decide) (by rw [hj, e])), hHeld⟩)
                      | exact ⟨Z.heap.size, z, Ay, my, cy, rfl, rfl, Blk.new _ _ _, hu.alloc _, hHeld⟩
                · go_simp
                  refine hK.out _ _ (fun _ => ext_trans hHeld ((ext_refl _).alloc (Nat.le_refl _) _)) (fun hHeld' => ?_)
                  clear hHeld
                  have hHeld := hHeld' (by decide)
                  clear hK K hHeld'
                  refine AtE.one (i := 12) rfl (by kernel_rfl) (fun K hK => ?_)
                  go_simp
                  refine (HRr.out _ (ext_trans HXX.out.2.2.2 hHeld)).mono ?_
                  rintro e Z ⟨z, Ay, my, cy, rfl, hu, hbZ⟩
                  have HU := Lib.hid (And.intro hu (And.intro hHeld hbZ))
                  refine hK.out _ _ (fun _ => ext_trans hHeld hbZ) (fun hHeld' => ?_)
                  clear hHeld hu hbZ
                  have hHeld := hHeld' (by decide)
                  clear hK K hHeld'
                  refine AtE.take (i := 13) (v := ?_) rfl (by kernel_rfl) (by kernel_rfl) (by kernel_rfl) (fun _ _ _ h => h) (by decide) (Or.inl ⟨by rfl, ?_⟩) hHeld ?_
                  rotate_left
                  · intro wH hSw; have k1 := (hSw.cell (p := ⟨g, k * 6, none⟩) hgX).trans y0; have k2 := (hSw.cell (p := ⟨g, k * 6 + 1, none⟩) hgX).trans y1; go_simp; try (with_reducible rfl)
                  simp only [Act.put, List.setIfInBounds_toArray, List.set_cons_zero, List.set_cons_succ]
                  refine AtE.take (i := 14) (v := ?_) rfl (by kernel_rfl) (by kernel_rfl) (by kernel_rfl) (fun _ _ _ h => h) (by decide) (Or.inl ⟨by rfl, ?_⟩) hHeld ?_
                  rotate_left
                  · intro wH hSw; have k1 := (hSw.cell (p := ⟨g, k * 6, none⟩) hgX).trans y0; have k2 := (hSw.cell (p := ⟨g, k * 6 + 1, none⟩) hgX).trans y1; go_simp; try (with_reducible rfl)
                  simp only [Act.put, List.setIfInBounds_toArray, List.set_cons_zero, List.set_cons_succ]
                  refine AtE.take (i := 15) (v := ?_) rfl (by kernel_rfl) (by kernel_rfl) (by kernel_rfl) (fun _ _ _ h => h) (by decide) (Or.inl ⟨by rfl, ?_⟩) hHeld ?_
                  rotate_left
                  · intro wH hSw; have k1 := (hSw.cell (p := ⟨g, k * 6, none⟩) hgX).trans y0; have k2 := (hSw.cell (p := ⟨g, k * 6 + 1, none⟩) hgX).trans y1; go_simp; try (with_reducible rfl)
                  simp only [Act.put, List.setIfInBounds_toArray, List.set_cons_zero, List.set_cons_succ]
                  refine AtE.one (i := 17) rfl (by kernel_rfl) (fun K hK => ?_)
                  try (have hBz := (show Blk _ X.heap.size 36 #[.int .i64 0, .int .i64 0, .bool false, .int .i64 0, .int .i64 0, .slice none 0 0] from Blk.at_ X.drew _ _ rfl).ext HU.out.2.2; have q0 := hBz.cell 0; have q1 := hBz.cell 1; have q2 := hBz.cell 2; have q3 := hBz.cell 3; have q4 := hBz.cell 4; have q5 := hBz.cell 5; have f0 := hBz.frozen 0; have f1 := hBz.frozen 1; have f2 := hBz.frozen 2; have f3 := hBz.frozen 3; have f4 := hBz.frozen 4; have f5 := hBz.frozen 5; have ql := hBz.lt; have HBZ := Lib.hid hBz; clear hBz)
                  go_simp
                  refine hK.out _ _ (fun _ => by first | (have hzz := HBZ.out; exact (((((hHeld.setCell (p := ⟨X.heap.size, 0, none⟩) (Nat.le_refl _) _).setCell (p := ⟨X.heap.size, 1, none⟩) (Nat.le_refl _) _).setCell (p := ⟨X.heap.size, 2, none⟩) (Nat.le_refl _) _).setCell (p := ⟨X.heap.size, 3, none⟩) (Nat.le_refl _) _).setCell (p := ⟨X.heap.size, 4, none⟩) (Nat.le_refl _) _).setCell (p := ⟨X.heap.size, 5, none⟩) (Nat.le_refl _) _) | exact ext_trans HU.out.2.1 (ext_trans HU.out.2.2 ((ext_refl _).alloc (Nat.le_refl _) _))) (fun hHeld' => ?_)
                  clear hHeld
                  have hHeld := hHeld' (by decide)
                  clear hK K hHeld'
                  refine AtE.one (i := 18) rfl (by kernel_rfl) (fun K hK => ?_)
                  go_simp
                  refine hK.out _ _ (fun h => absurd rfl h) (fun _ => ?_)
                  clear hK K
                  refine AtE.done (by kernel_rfl) ?_
                  go_wp2
                  go_meet
                  case rel =>
                    obtain ⟨hu, hb1, hb2⟩ := HU.out
                    first
                      | (have hzz := HBZ.out; exact ⟨X.heap.size, z, Ay, my, cy, rfl, rfl, by simpa using (((((HBZ.out.set_ 0 _).set_ 1 _).set_ 2 _).set_ 3 _).set_ 4 _).set_ 5 _, hu.keep (S := (· = X.heap.size)) ((((((setCell_upd Z X.heap.size 0 _).setCell (p := ⟨X.heap.size, 1, none⟩) (fun _ => rfl) _).setCell (p := ⟨X.heap.size, 2, none⟩) (fun _ => rfl) _).setCell (p := ⟨X.heap.size, 3, none⟩) (fun _ => rfl) _).setCell (p := ⟨X.heap.size, 4, none⟩) (fun _ => rfl) _).setCell (p := ⟨X.heap.size, 5, none⟩) (fun _ => rfl) _) (fun j hj e => hu.ne HBZ.out (by decide) (by rw [hj, e])), hHeld⟩)
                      | exact ⟨Z.heap.size, z, Ay, my, cy, rfl, rfl, Blk.new _ _ _, hu.alloc _, hHeld⟩
              case rest =>
                obtain ⟨b2, z, A2, m2, c2, rfl, rfl, hby, hty, hbX⟩ := hcut
                obtain ⟨U, rfl⟩ : ∃ U : World, U = wc := ⟨_, rfl⟩
                have hx := HXX.out.1.ext hbX
                have htx := HXX.out.2.1.keep (S := fun _ => False) (Upd.of_ext hbX) (fun _ _ h => h)
                have r0 := hx.cell 0
                have r1 := hx.cell 1
                have r2 := hx.cell 2
                have rl := hx.lt
                have s3 := hby.cell 3
                have s4 := hby.cell 4
                have s5 := hby.cell 5
                have sl := hby.lt
                have HUU := Lib.hid (And.intro hx (And.intro htx (And.intro hty hbX)))
                have e1 : (res.2 != res.2) = false := by simp
                have e2 : (res.1.end_ != res.1.end_) = false := by simp
                have e4 : (res.1.level != res.1.level) = false := by simp
                clear hx htx hby hty hbX
                go_wp2_with (first
                  | (go_at_call 37; refine (sameTwigs_self res.1.tree _ _ _ HUU.out.2.1.twgs HUU.out.2.2.1.twgs).mono ?_; rintro e X3 ⟨rfl, hdr⟩
                     have hbd := drew_ext hdr
                     have hx := HUU.out.1.ext hbd
                     have r2 := hx.cell 2
                     have rl := hx.lt
                     have HDR := Lib.hid hbd
                     clear hdr hbd hx)
                  | (go_at_call 17; refine (overRow_any res.1.tree _ _ (HUU.out.2.1.keep (S := fun _ => False) (Upd.of_ext HDR.out) (fun _ _ h => h)) (by omega)).mono ?_; rintro e X4 ⟨rfl, hu4⟩))
                go_roundw
                case rel =>
                  have hb1 := ext_trans HXX.out.2.2.2 (ext_trans HUU.out.2.2.2 HDR.out)
                  have hb2 := hb1.trans (hu4.below (B := V.heap.size) hb1.size (fun j hj e => by have := HXX.out.2.2.1 j e; omega))
                  exact ⟨j + 1, by omega, by go_num, ext_trans HBW.out hb2⟩
                case measure => simp [intOf]; omega
          · obtain rfl : j = 3 := by omega
            have hlt3 : ¬ (x.p.level - 1 + ((3 : Nat) : Int) < x.p.level + 2) := by omega
            go_wp2
            go_roundw
            case rel => exact ⟨k + 1, by omega, by go_num, ext_trans HBR.out HBW.out⟩
            case measure => simp [intOf]; omega
      · obtain rfl : k = xs.length := by omega
        go_wp2
        go_ret
        exact ⟨rfl, ext_trans HWY.out hbr⟩
end Go.Proofs.Ytchmlhceidociaa
