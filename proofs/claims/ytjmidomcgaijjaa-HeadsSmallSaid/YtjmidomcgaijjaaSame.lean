/- Both stacks side by side: they are the same. -/
import Derived.Test.YtjmidomcgaijjaaDeed
import Derived.Test.YtjmidomcgaijjaaAwake

namespace Go.Proofs.Ytjmidomcgaijjaa
set_option linter.unusedVariables false
set_option linter.unusedSimpArgs false
open Go.RowKit

theorem Bd.involved {n : Nat} {l : List Fr} (h : Bd n l) (k : Nat) (hk : k < l.length) : involvedOf l l[k].rule l[k].place = l[k].involved := by
  have : l.find? (isPair l[k].rule l[k].place) = some l[k] := by
    rw [List.find?_eq_some_iff_getElem]
    refine ⟨by simp [isPair], k, hk, rfl, fun j hj => ?_⟩
    have := (List.pairwise_iff_getElem.1 h.apart) j k (by omega) hk hj
    simp only [isPair, Bool.not_eq_true', Bool.and_eq_false_iff, beq_eq_false_iff_ne]
    by_cases h1 : l[j].rule = l[k].rule
    · right; exact fun h2 => this ⟨h1, h2⟩
    · left; exact h1
  unfold involvedOf
  rw [this]
theorem Bd.stands {n : Nat} {l : List Fr} (h : Bd n l) (k : Nat) (hk : k < l.length) : (!(l[k].touched.any fun r => standsAt l r l[k].place)) = false := by
  have : (l[k].touched.any fun r => standsAt l r l[k].place) = true := by
    rw [List.any_eq_true]
    refine ⟨l[k].rule, (h.fr _ (List.getElem_mem hk)).2.2.2.2.2, ?_⟩
    unfold standsAt
    rw [List.any_eq_true]
    exact ⟨_, List.getElem_mem hk, by simp [isPair]⟩
  rw [this]; rfl
theorem pairs_at (l : List Fr) (k : Nat) (hk : k < l.length) : (l.flatMap pairCells)[k * 2]? = some (.int .i64 l[k].rule) ∧ (l.flatMap pairCells)[k * 2 + 1]? = some (.int .i64 l[k].place) := by
  induction l generalizing k with
  | nil => simp at hk
  | cons f l ih =>
    have hl : (pairCells f).length = 2 := rfl
    rw [List.flatMap_cons]
    cases k with
    | zero => exact ⟨rfl, rfl⟩
    | succ k =>
      have h1 := ih k (by simpa using hk)
      have e1 : (k + 1) * 2 - (pairCells f).length = k * 2 := by omega
      have e2 : (k + 1) * 2 + 1 - (pairCells f).length = k * 2 + 1 := by omega
      rw [List.getElem?_append_right (by omega), List.getElem?_append_right (by omega), e1, e2]
      exact h1
/-- a row of numbers of the call's own, written over -/
theorem own_room {w : World} {b n c g : Nat} {xs : List Value} (h : w.ownsRow b 3 1 (.slice (some ⟨g, 0, none⟩) n c) n xs) : ∃ cs, Blk w g 3 cs ∧ cs.size = c ∧ n ≤ c ∧ c ≤ maxLen := by
  obtain ⟨_, ⟨h0, _⟩ | ⟨g', cap, cur, e, _, hg, h1, h2, h3, _⟩⟩ := h
  · cases h0
  · injection e with e1 _ e3
    injection e1 with e1
    injection e1 with e1 _ _
    subst e1 e3
    exact ⟨cur, hg, by omega, h1, h2⟩

set_option maxRecDepth 100000 in
set_option maxHeartbeats 6400000 in
theorem same_any (p q n : Nat) (S R : Nat → Prop) (l : List Fr) (d : Dd) (tv : Value) (w : World) (hs : HS w p S l) (hr : RS w q R l) (hb : Bd n l) (hn : n ≤ 800) (ht : Ints w tv d.touched) :
    Calls Try.prog 33 #[.pointer (some ⟨p, 0, none⟩), .pointer (some ⟨q, 0, none⟩), .agg #[.int .i64 d.what, .int .i64 d.rule, .int .i64 d.place, tv]] w fun e w' =>
      e = .returned (.bool true) ∧ Below w.heap.size w w' := by
  have hlen := hb.len
  have hI : ∀ W, Below w.heap.size w W → Ints W tv d.touched := fun W h => ht.of_cells (fun a u ha => (h.cell (World.block_lt_of_cell? w a ha)).trans ha)
  have HP := Lib.hid (fun W (h : Below w.heap.size w W) => pairs_uni S l p W (hs.ext h) (by omega))
  have HT := Lib.hid (fun W (h : Below w.heap.size w W) => tainted_uni S l p W (hs.ext h))
  have HTR := Lib.hid (fun W (h : Below w.heap.size w W) => taintedR_uni (hr.ext h))
  have HF := Lib.hid (fun W (h : Below w.heap.size w W) => free_uni S l d.touched tv d.place p W (hs.ext h) (hI W h))
  have HFR := Lib.hid (fun W (h : Below w.heap.size w W) => freeR_uni tv d.touched d.place (hr.ext h) (hI W h))
  have HV := Lib.hid (fun W (h : Below w.heap.size w W) r pl => involved_uni S l r pl p W (hs.ext h) (hb.fine (by omega)))
  have HVR := Lib.hid (fun W (h : Below w.heap.size w W) r pl => involvedR_uni r pl (hr.ext h))
  have HFK := Lib.hid (fun k (hk : k < l.length) W (h : Below w.heap.size w W) tv' (h' : Ints W tv' l[k].touched) => hb.stands k hk ▸ free_uni S l l[k].touched tv' l[k].place p W (hs.ext h) h')
  have HVK := Lib.hid (fun k (hk : k < l.length) W (h : Below w.heap.size w W) => hb.involved k hk ▸ involved_uni S l l[k].rule l[k].place p W (hs.ext h) (hb.fine (by omega)))
  have HRF := Lib.hid (fun W (h : Below w.heap.size w W) => (hr.ext h).form)
  generalize taintedOf l = tb at *
  generalize (!(d.touched.any fun r => standsAt l r d.place)) = fb at *
  have e1 : (tb != tb) = false := by simp
  have e2 : (fb != fb) = false := by simp
  have e3 : ((l.length : Int) != (l.length : Int)) = false := by simp
  have HB := Lib.hid hb
  obtain ⟨what, rule, place, touched⟩ := d
  obtain ⟨At, ct, rfl, _⟩ := ht.form
  have hb0 := (ext_refl w).alloc (Nat.le_refl _) (.cells #[.int .i64 what, .int .i64 rule, .int .i64 place, .slice At touched.length ct] 55)
  have hB0 : Blk (w.alloc (.cells #[.int .i64 what, .int .i64 rule, .int .i64 place, .slice At touched.length ct] 55)) w.heap.size _ _ := Blk.new w _ _
  have HB0 := Lib.hid (And.intro hb0 hB0)
  clear hs hr ht hI hb hb0 hB0
  go_enter Try.func33, Try.ntmps33
  go_wp2_with (first
    | (go_at_call 54; refine (HP.out _ HB0.out.1).mono ?_; rintro e w1 ⟨u, rfl, hrow, hb1⟩))
  have hb1' : Below w.heap.size w w1 := ext_trans HB0.out.1 hb1
  have hd := HB0.out.2.ext hb1
  obtain ⟨Ap, cp, rfl⟩ := ownsRow_form hrow
  obtain ⟨Ar, cr, r0, rl, _⟩ := HRF.out w1 hb1'
  have k1 := hd.cell 1
  have k2 := hd.cell 2
  have k3 := hd.cell 3
  have kl := hd.lt
  have HROW := Lib.hid (And.intro hrow (And.intro hb1' hd))
  clear hrow hb1 hd
  refine AtE.start (S := fun w' => w'.cell? ⟨q, 0, none⟩ = some (.slice Ar l.length cr) ∧ w'.cell? ⟨w.heap.size, 1, none⟩ = some (.int .i64 rule) ∧ w'.cell? ⟨w.heap.size, 2, none⟩ = some (.int .i64 place) ∧ w'.cell? ⟨w.heap.size, 3, none⟩ = some (.slice At touched.length ct)) 45 (by kernel_rfl) (by kernel_rfl) (by exact ⟨by simpa using r0, by simpa using k1, by simpa using k2, by simpa using k3⟩) (fun hHeld => ?_)
  refine AtE.take (i := 0) (v := ?_) rfl (by kernel_rfl) (by kernel_rfl) (by kernel_rfl) (fun _ _ _ h => h) (by decide) (Or.inl ⟨by rfl, ?_⟩) hHeld ?_
  rotate_left
  · intro w hSw; go_simp; try (with_reducible rfl)
  simp only [Act.put, List.setIfInBounds_toArray, List.set_cons_zero, List.set_cons_succ]
  refine AtE.take (i := 1) (v := ?_) rfl (by kernel_rfl) (by kernel_rfl) (by kernel_rfl) (fun _ _ _ h => h) (by decide) (Or.inl ⟨by rfl, ?_⟩) hHeld ?_
  rotate_left
  · intro w hSw; go_simp; try (with_reducible rfl)
  simp only [Act.put, List.setIfInBounds_toArray, List.set_cons_zero, List.set_cons_succ]
  refine AtE.take (i := 2) (v := ?_) rfl (by kernel_rfl) (by kernel_rfl) (by kernel_rfl) (fun _ _ _ h => h) (by decide) (Or.inl ⟨by rfl, ?_⟩) hHeld ?_
  rotate_left
  · intro w hSw; go_simp; try (with_reducible rfl)
  simp only [Act.put, List.setIfInBounds_toArray, List.set_cons_zero, List.set_cons_succ]
  refine AtE.take (i := 3) (v := ?_) rfl (by kernel_rfl) (by kernel_rfl) (by kernel_rfl) (fun _ _ _ h => h) (by decide) (Or.inl ⟨by rfl, ?_⟩) hHeld ?_
  rotate_left
  · intro w hSw; go_simp; try (with_reducible rfl)
  simp only [Act.put, List.setIfInBounds_toArray, List.set_cons_zero, List.set_cons_succ]
  refine AtE.take (i := 4) (v := ?_) rfl (by kernel_rfl) (by kernel_rfl) (by kernel_rfl) (fun _ _ _ h => h) (by decide) (Or.inl ⟨by rfl, ?_⟩) hHeld ?_
  rotate_left
  · intro w hSw; go_simp; try (with_reducible rfl)
  simp only [Act.put, List.setIfInBounds_toArray, List.set_cons_zero, List.set_cons_succ]
  refine AtE.take (i := 5) (v := ?_) rfl (by kernel_rfl) (by kernel_rfl) (by kernel_rfl) (fun _ _ _ h => h) (by decide) (Or.inl ⟨by rfl, ?_⟩) hHeld ?_
  rotate_left
  · intro w hSw; go_simp; try (with_reducible rfl)
  simp only [Act.put, List.setIfInBounds_toArray, List.set_cons_zero, List.set_cons_succ]
  refine AtE.take (i := 6) (v := ?_) rfl (by kernel_rfl) (by kernel_rfl) (by kernel_rfl) (fun _ _ _ h => h) (by decide) (Or.inl ⟨by rfl, ?_⟩) hHeld ?_
  rotate_left
  · intro w hSw; go_simp; try (with_reducible rfl)
  simp only [Act.put, List.setIfInBounds_toArray, List.set_cons_zero, List.set_cons_succ]
  refine AtE.take (i := 7) (v := ?_) rfl (by kernel_rfl) (by kernel_rfl) (by kernel_rfl) (fun _ _ _ h => h) (by decide) (Or.inl ⟨by rfl, ?_⟩) hHeld ?_
  rotate_left
  · intro w hSw; go_simp; try (with_reducible rfl)
  simp only [Act.put, List.setIfInBounds_toArray, List.set_cons_zero, List.set_cons_succ]
  refine AtE.take (i := 8) (v := ?_) rfl (by kernel_rfl) (by kernel_rfl) (by kernel_rfl) (fun _ _ _ h => h) (by decide) (Or.inl ⟨by rfl, ?_⟩) hHeld ?_
  rotate_left
  · intro w hSw; go_simp; try (with_reducible rfl)
  simp only [Act.put, List.setIfInBounds_toArray, List.set_cons_zero, List.set_cons_succ]
  refine AtE.take (i := 9) (v := ?_) rfl (by kernel_rfl) (by kernel_rfl) (by kernel_rfl) (fun _ _ _ h => h) (by decide) (Or.inl ⟨by rfl, ?_⟩) hHeld ?_
  rotate_left
  · intro w hSw; go_simp; try (with_reducible rfl)
  simp only [Act.put, List.setIfInBounds_toArray, List.set_cons_zero, List.set_cons_succ]
  refine AtE.take (i := 11) (v := ?_) rfl (by kernel_rfl) (by kernel_rfl) (by kernel_rfl) (fun _ _ _ h => h) (by decide) (Or.inl ⟨by rfl, ?_⟩) hHeld ?_
  rotate_left
  · intro w hSw; go_simp; try (with_reducible rfl)
  simp only [Act.put, List.setIfInBounds_toArray, List.set_cons_zero, List.set_cons_succ]
  refine AtE.one (i := 10) rfl (by kernel_rfl) (fun K hK => ?_)
  go_simp
  refine (HT.out _ (ext_trans HROW.out.2.1 (ext_refl w1).drew)).mono ?_
  rintro e w2 ⟨rfl, hdr⟩
  have hq2 : Below w1.heap.size w1 w2 := ext_trans (ext_refl w1).drew (drew_ext hdr)
  clear hdr
  refine hK.out _ _ (fun _ => ⟨(hq2.cell (p := ⟨q, 0, none⟩) rl).trans r0, (hq2.cell (p := ⟨w.heap.size, 1, none⟩) kl).trans k1, (hq2.cell (p := ⟨w.heap.size, 2, none⟩) kl).trans k2, (hq2.cell (p := ⟨w.heap.size, 3, none⟩) kl).trans k3⟩) (fun hHeld' => ?_)
  have hHeld := hHeld' (by decide)
  clear hK K hHeld'
  have HQ2 := Lib.hid hq2
  clear hq2
  refine AtE.one (i := 12) rfl (by kernel_rfl) (fun K hK => ?_)
  go_simp
  refine (HTR.out _ (ext_trans HROW.out.2.1 HQ2.out)).mono ?_
  rintro e w3 ⟨rfl, hdr⟩
  have hq3 : Below w1.heap.size w1 w3 := ext_trans HQ2.out (drew_ext hdr)
  clear hdr
  refine hK.out _ _ (fun _ => ⟨(hq3.cell (p := ⟨q, 0, none⟩) rl).trans r0, (hq3.cell (p := ⟨w.heap.size, 1, none⟩) kl).trans k1, (hq3.cell (p := ⟨w.heap.size, 2, none⟩) kl).trans k2, (hq3.cell (p := ⟨w.heap.size, 3, none⟩) kl).trans k3⟩) (fun hHeld' => ?_)
  have hHeld := hHeld' (by decide)
  clear hK K hHeld'
  have HQ3 := Lib.hid hq3
  clear hq3
  refine AtE.take (i := 13) (v := ?_) rfl (by kernel_rfl) (by kernel_rfl) (by kernel_rfl) (fun _ _ _ h => h) (by decide) (Or.inl ⟨by rfl, ?_⟩) hHeld ?_
  rotate_left
  · intro w hSw; go_simp; try (with_reducible rfl)
  simp only [Act.put, List.setIfInBounds_toArray, List.set_cons_zero, List.set_cons_succ]
  refine AtE.take (i := 14) (v := ?_) rfl (by kernel_rfl) (by kernel_rfl) (by kernel_rfl) (fun _ _ _ h => h) (by decide) (Or.inl ⟨by rfl, ?_⟩) hHeld ?_
  rotate_left
  · intro w hSw; go_simp; try (with_reducible rfl)
  simp only [Act.put, List.setIfInBounds_toArray, List.set_cons_zero, List.set_cons_succ]
  refine AtE.take (i := 15) (v := ?_) rfl (by kernel_rfl) (by kernel_rfl) (by kernel_rfl) (fun _ _ _ h => h) (by decide) (Or.inl ⟨by rfl, ?_⟩) hHeld ?_
  rotate_left
  · intro w hSw; go_simp; try (with_reducible rfl)
  simp only [Act.put, List.setIfInBounds_toArray, List.set_cons_zero, List.set_cons_succ]
  refine AtE.take (i := 16) (v := ?_) rfl (by kernel_rfl) (by kernel_rfl) (by kernel_rfl) (fun _ _ _ h => h) (by decide) (Or.inl ⟨by rfl, ?_⟩) hHeld ?_
  rotate_left
  · intro w hSw; go_simp; try (with_reducible rfl)
  simp only [Act.put, List.setIfInBounds_toArray, List.set_cons_zero, List.set_cons_succ]
  refine AtE.take (i := 17) (v := ?_) rfl (by kernel_rfl) (by kernel_rfl) (by kernel_rfl) (fun _ _ _ h => h) (by decide) (Or.inl ⟨by rfl, ?_⟩) hHeld ?_
  rotate_left
  · intro w hSw; go_simp; try (with_reducible rfl)
  simp only [Act.put, List.setIfInBounds_toArray, List.set_cons_zero, List.set_cons_succ]
  refine AtE.take (i := 18) (v := ?_) rfl (by kernel_rfl) (by kernel_rfl) (by kernel_rfl) (fun _ _ _ h => h) (by decide) (Or.inl ⟨by rfl, ?_⟩) hHeld ?_
  rotate_left
  · intro w hSw; go_simp; try (with_reducible rfl)
  simp only [Act.put, List.setIfInBounds_toArray, List.set_cons_zero, List.set_cons_succ]
  refine AtE.take (i := 19) (v := ?_) rfl (by kernel_rfl) (by kernel_rfl) (by kernel_rfl) (fun _ _ _ h => h) (by decide) (Or.inl ⟨by rfl, ?_⟩) hHeld ?_
  rotate_left
  · intro w hSw; go_simp; try (with_reducible rfl)
  simp only [Act.put, List.setIfInBounds_toArray, List.set_cons_zero, List.set_cons_succ]
  refine AtE.take (i := 20) (v := ?_) rfl (by kernel_rfl) (by kernel_rfl) (by kernel_rfl) (fun _ _ _ h => h) (by decide) (Or.inl ⟨by rfl, ?_⟩) hHeld ?_
  rotate_left
  · intro w hSw; go_simp; try (with_reducible rfl)
  simp only [Act.put, List.setIfInBounds_toArray, List.set_cons_zero, List.set_cons_succ]
  refine AtE.take (i := 22) (v := ?_) rfl (by kernel_rfl) (by kernel_rfl) (by kernel_rfl) (fun _ _ _ h => h) (by decide) (Or.inl ⟨by rfl, ?_⟩) hHeld ?_
  rotate_left
  · intro w hSw; go_simp; try (with_reducible rfl)
  simp only [Act.put, List.setIfInBounds_toArray, List.set_cons_zero, List.set_cons_succ]
  refine AtE.take (i := 23) (v := ?_) rfl (by kernel_rfl) (by kernel_rfl) (by kernel_rfl) (fun _ _ _ h => h) (by decide) (Or.inl ⟨by rfl, ?_⟩) hHeld ?_
  rotate_left
  · intro w hSw; go_simp; try (with_reducible rfl)
  simp only [Act.put, List.setIfInBounds_toArray, List.set_cons_zero, List.set_cons_succ]
  refine AtE.take (i := 24) (v := ?_) rfl (by kernel_rfl) (by kernel_rfl) (by kernel_rfl) (fun _ _ _ h => h) (by decide) (Or.inl ⟨by rfl, ?_⟩) hHeld ?_
  rotate_left
  · intro w hSw; go_simp; try (with_reducible rfl)
  simp only [Act.put, List.setIfInBounds_toArray, List.set_cons_zero, List.set_cons_succ]
  refine AtE.take (i := 25) (v := ?_) rfl (by kernel_rfl) (by kernel_rfl) (by kernel_rfl) (fun _ _ _ h => h) (by decide) (Or.inl ⟨by rfl, ?_⟩) hHeld ?_
  rotate_left
  · intro w hSw; go_simp; try (with_reducible rfl)
  simp only [Act.put, List.setIfInBounds_toArray, List.set_cons_zero, List.set_cons_succ]
  refine AtE.take (i := 26) (v := ?_) rfl (by kernel_rfl) (by kernel_rfl) (by kernel_rfl) (fun _ _ _ h => h) (by decide) (Or.inl ⟨by rfl, ?_⟩) hHeld ?_
  rotate_left
  · intro w hSw; go_simp; try (with_reducible rfl)
  simp only [Act.put, List.setIfInBounds_toArray, List.set_cons_zero, List.set_cons_succ]
  refine AtE.one (i := 21) rfl (by kernel_rfl) (fun K hK => ?_)
  go_simp
  refine (HF.out _ (ext_trans HROW.out.2.1 HQ3.out)).mono ?_
  rintro e w4 ⟨rfl, hdr⟩
  have hq4 : Below w1.heap.size w1 w4 := ext_trans HQ3.out hdr
  clear hdr
  refine hK.out _ _ (fun _ => ⟨(hq4.cell (p := ⟨q, 0, none⟩) rl).trans r0, (hq4.cell (p := ⟨w.heap.size, 1, none⟩) kl).trans k1, (hq4.cell (p := ⟨w.heap.size, 2, none⟩) kl).trans k2, (hq4.cell (p := ⟨w.heap.size, 3, none⟩) kl).trans k3⟩) (fun hHeld' => ?_)
  have hHeld := hHeld' (by decide)
  clear hK K hHeld'
  have HQ4 := Lib.hid hq4
  clear hq4
  refine AtE.one (i := 27) rfl (by kernel_rfl) (fun K hK => ?_)
  go_simp
  refine (HFR.out _ (ext_trans HROW.out.2.1 HQ4.out)).mono ?_
  rintro e w5 ⟨rfl, rfl⟩
  have hq5 : Below w1.heap.size w1 w4 := HQ4.out
  refine hK.out _ _ (fun _ => ⟨(hq5.cell (p := ⟨q, 0, none⟩) rl).trans r0, (hq5.cell (p := ⟨w.heap.size, 1, none⟩) kl).trans k1, (hq5.cell (p := ⟨w.heap.size, 2, none⟩) kl).trans k2, (hq5.cell (p := ⟨w.heap.size, 3, none⟩) kl).trans k3⟩) (fun hHeld' => ?_)
  have hHeld := hHeld' (by decide)
  clear hK K hHeld'
  have HQ5 := Lib.hid hq5
  clear hq5
  refine AtE.take (i := 28) (v := ?_) rfl (by kernel_rfl) (by kernel_rfl) (by kernel_rfl) (fun _ _ _ h => h) (by decide) (Or.inl ⟨by rfl, ?_⟩) hHeld ?_
  rotate_left
  · intro w hSw; go_simp; try (with_reducible rfl)
  simp only [Act.put, List.setIfInBounds_toArray, List.set_cons_zero, List.set_cons_succ]
  refine AtE.take (i := 29) (v := ?_) rfl (by kernel_rfl) (by kernel_rfl) (by kernel_rfl) (fun _ _ _ h => h) (by decide) (Or.inl ⟨by rfl, ?_⟩) hHeld ?_
  rotate_left
  · intro w hSw; go_simp; try (with_reducible rfl)
  simp only [Act.put, List.setIfInBounds_toArray, List.set_cons_zero, List.set_cons_succ]
  refine AtE.take (i := 30) (v := ?_) rfl (by kernel_rfl) (by kernel_rfl) (by kernel_rfl) (fun _ _ _ h => h) (by decide) (Or.inl ⟨by rfl, ?_⟩) hHeld ?_
  rotate_left
  · intro w hSw; go_simp; try (with_reducible rfl)
  simp only [Act.put, List.setIfInBounds_toArray, List.set_cons_zero, List.set_cons_succ]
  refine AtE.take (i := 31) (v := ?_) rfl (by kernel_rfl) (by kernel_rfl) (by kernel_rfl) (fun _ _ _ h => h) (by decide) (Or.inl ⟨by rfl, ?_⟩) hHeld ?_
  rotate_left
  · intro w hSw; go_simp; try (with_reducible rfl)
  simp only [Act.put, List.setIfInBounds_toArray, List.set_cons_zero, List.set_cons_succ]
  refine AtE.take (i := 32) (v := ?_) rfl (by kernel_rfl) (by kernel_rfl) (by kernel_rfl) (fun _ _ _ h => h) (by decide) (Or.inl ⟨by rfl, ?_⟩) hHeld ?_
  rotate_left
  · intro w hSw; go_simp; try (with_reducible rfl)
  simp only [Act.put, List.setIfInBounds_toArray, List.set_cons_zero, List.set_cons_succ]
  refine AtE.take (i := 33) (v := ?_) rfl (by kernel_rfl) (by kernel_rfl) (by kernel_rfl) (fun _ _ _ h => h) (by decide) (Or.inl ⟨by rfl, ?_⟩) hHeld ?_
  rotate_left
  · intro w hSw; go_simp; try (with_reducible rfl)
  simp only [Act.put, List.setIfInBounds_toArray, List.set_cons_zero, List.set_cons_succ]
  refine AtE.take (i := 34) (v := ?_) rfl (by kernel_rfl) (by kernel_rfl) (by kernel_rfl) (fun _ _ _ h => h) (by decide) (Or.inl ⟨by rfl, ?_⟩) hHeld ?_
  rotate_left
  · intro w hSw; go_simp; try (with_reducible rfl)
  simp only [Act.put, List.setIfInBounds_toArray, List.set_cons_zero, List.set_cons_succ]
  refine AtE.take (i := 35) (v := ?_) rfl (by kernel_rfl) (by kernel_rfl) (by kernel_rfl) (fun _ _ _ h => h) (by decide) (Or.inl ⟨by rfl, ?_⟩) hHeld ?_
  rotate_left
  · intro w hSw; go_simp; try (with_reducible rfl)
  simp only [Act.put, List.setIfInBounds_toArray, List.set_cons_zero, List.set_cons_succ]
  refine AtE.take (i := 37) (v := ?_) rfl (by kernel_rfl) (by kernel_rfl) (by kernel_rfl) (fun _ _ _ h => h) (by decide) (Or.inl ⟨by rfl, ?_⟩) hHeld ?_
  rotate_left
  · intro w hSw; go_simp; try (with_reducible rfl)
  simp only [Act.put, List.setIfInBounds_toArray, List.set_cons_zero, List.set_cons_succ]
  refine AtE.take (i := 38) (v := ?_) rfl (by kernel_rfl) (by kernel_rfl) (by kernel_rfl) (fun _ _ _ h => h) (by decide) (Or.inl ⟨by rfl, ?_⟩) hHeld ?_
  rotate_left
  · intro w hSw; go_simp; try (with_reducible rfl)
  simp only [Act.put, List.setIfInBounds_toArray, List.set_cons_zero, List.set_cons_succ]
  refine AtE.take (i := 39) (v := ?_) rfl (by kernel_rfl) (by kernel_rfl) (by kernel_rfl) (fun _ _ _ h => h) (by decide) (Or.inl ⟨by rfl, ?_⟩) hHeld ?_
  rotate_left
  · intro w hSw; go_simp; try (with_reducible rfl)
  simp only [Act.put, List.setIfInBounds_toArray, List.set_cons_zero, List.set_cons_succ]
  refine AtE.take (i := 40) (v := ?_) rfl (by kernel_rfl) (by kernel_rfl) (by kernel_rfl) (fun _ _ _ h => h) (by decide) (Or.inl ⟨by rfl, ?_⟩) hHeld ?_
  rotate_left
  · intro w hSw; go_simp; try (with_reducible rfl)
  simp only [Act.put, List.setIfInBounds_toArray, List.set_cons_zero, List.set_cons_succ]
  refine AtE.take (i := 41) (v := ?_) rfl (by kernel_rfl) (by kernel_rfl) (by kernel_rfl) (fun _ _ _ h => h) (by decide) (Or.inl ⟨by rfl, ?_⟩) hHeld ?_
  rotate_left
  · intro w hSw; go_simp; try (with_reducible rfl)
  simp only [Act.put, List.setIfInBounds_toArray, List.set_cons_zero, List.set_cons_succ]
  refine AtE.one (i := 36) rfl (by kernel_rfl) (fun K hK => ?_)
  go_simp
  refine (HV.out _ (ext_trans HROW.out.2.1 HQ5.out) _ _).mono ?_
  rintro e w6 ⟨u1, rfl, ⟨A1, c1, rfl⟩, hrow1, hdr⟩
  have hq6 : Below w1.heap.size w1 w6 := ext_trans HQ5.out hdr
  have HU1 := Lib.hid (show Ints w6 _ _ from Reads.of_own hrow1)
  clear hdr hrow1
  refine hK.out _ _ (fun _ => ⟨(hq6.cell (p := ⟨q, 0, none⟩) rl).trans r0, (hq6.cell (p := ⟨w.heap.size, 1, none⟩) kl).trans k1, (hq6.cell (p := ⟨w.heap.size, 2, none⟩) kl).trans k2, (hq6.cell (p := ⟨w.heap.size, 3, none⟩) kl).trans k3⟩) (fun hHeld' => ?_)
  have hHeld := hHeld' (by decide)
  clear hK K hHeld'
  have HQ6 := Lib.hid hq6
  clear hq6
  refine AtE.one (i := 42) rfl (by kernel_rfl) (fun K hK => ?_)
  go_simp
  refine (HVR.out _ (ext_trans HROW.out.2.1 HQ6.out) _ _).mono ?_
  rintro e w7 ⟨u2, rfl, hrow2, _, rfl⟩
  have hq7 : Below w1.heap.size w1 w6 := HQ6.out
  have HU2 := Lib.hid hrow2.ints
  clear hrow2
  refine hK.out _ _ (fun _ => ⟨(hq7.cell (p := ⟨q, 0, none⟩) rl).trans r0, (hq7.cell (p := ⟨w.heap.size, 1, none⟩) kl).trans k1, (hq7.cell (p := ⟨w.heap.size, 2, none⟩) kl).trans k2, (hq7.cell (p := ⟨w.heap.size, 3, none⟩) kl).trans k3⟩) (fun hHeld' => ?_)
  have hHeld := hHeld' (by decide)
  clear hK K hHeld'
  have HQ7 := Lib.hid hq7
  clear hq7
  refine AtE.one (i := 43) rfl (by kernel_rfl) (fun K hK => ?_)
  go_simp
  refine (sameInts_any _ _ _ _ _ HU1.out HU2.out).mono ?_
  rintro e w8 ⟨rfl, hdr⟩
  have hq8 : Below w1.heap.size w1 w8 := ext_trans HQ7.out (drew_ext hdr)
  rw [decide_eq_true rfl]
  clear hdr
  refine hK.out _ _ (fun _ => ⟨(hq8.cell (p := ⟨q, 0, none⟩) rl).trans r0, (hq8.cell (p := ⟨w.heap.size, 1, none⟩) kl).trans k1, (hq8.cell (p := ⟨w.heap.size, 2, none⟩) kl).trans k2, (hq8.cell (p := ⟨w.heap.size, 3, none⟩) kl).trans k3⟩) (fun hHeld' => ?_)
  have hHeld := hHeld' (by decide)
  clear hK K hHeld'
  have HQ8 := Lib.hid hq8
  clear hq8
  refine AtE.take (i := 44) (v := ?_) rfl (by kernel_rfl) (by kernel_rfl) (by kernel_rfl) (fun _ _ _ h => h) (by decide) (Or.inl ⟨by rfl, ?_⟩) hHeld ?_
  rotate_left
  · intro w hSw; go_simp; try (with_reducible rfl)
  simp only [Act.put, List.setIfInBounds_toArray, List.set_cons_zero, List.set_cons_succ]
  refine AtE.one (i := 45) rfl (by kernel_rfl) (fun K hK => ?_)
  go_simp
  refine hK.out _ _ (fun h => absurd rfl h) (fun _ => ?_)
  clear hK K
  refine AtE.done (by kernel_rfl) ?_
  have hW8 := ext_trans HROW.out.2.1 HQ8.out
  have HW8 := Lib.hid hW8
  clear hW8 hHeld r0 k1 k2 k3 kl rl e1 e2 HP HT HTR HF HFR HV HVR HU1 HU2 HQ2 HQ3 HQ4 HQ5 HQ6 HQ7
  go_wp2
  go_loopw [8] (fun i wr => ∃ k : Nat, k ≤ l.length ∧ i = .int .i64 k ∧ Below w8.heap.size w8 wr) (fun i _ => l.length - (intOf i).toNat)
  case atStart => exact ⟨0, Nat.zero_le _, rfl, ext_refl _⟩
  case round =>
    obtain ⟨k, hk, rfl, hbr⟩ := hrel
    have HBR := Lib.hid hbr
    by_cases hlt : k < l.length
    · have hWr := ext_trans HW8.out hbr
      obtain ⟨Ar, cr, r0, rl, hrc, hrm, hrow⟩ := HRF.out wr hWr
      unfold maxLen at hrm
      obtain ⟨g, rfl, hg, -, hcell⟩ := hrow (by omega)
      obtain ⟨tv, iv, g0, g1, g2, g3, g4, ht, hi⟩ := hcell k hlt
      obtain ⟨Atx, ctx, rfl⟩ := ownsRow_form ht.1
      obtain ⟨Aix, cix, rfl⟩ := ownsRow_form hi.1
      have HTI := Lib.hid (And.intro ht hi)
      have HVk := Lib.hid (HVK.out k hlt)
      have HFk := Lib.hid (HFK.out k hlt)
      have hkl : (k : Int) < (l.length : Int) := by omega
      have hprow := ownsRow_keep (S := fun _ => False) HROW.out.1 (Upd.of_ext (ext_trans HQ8.out hbr)) (fun _ _ h => h)
      obtain ⟨gp, capp, ep, -, hgp⟩ := hprow.form (by omega)
      injection ep with ep1 _ ep3
      subst ep1 ep3
      have p0 := World.ownsRow.cells hprow rfl (k * 2) _ (pairs_at l k hlt).1
      have p1 := World.ownsRow.cells hprow rfl (k * 2 + 1) _ (pairs_at l k hlt).2
      rw [Addr.add_lit, Nat.zero_add] at p0 p1
      clear hrow hcell ht hi hprow
      generalize hf : l[k] = f at *
      have HX := Lib.hid (show Blk (wr.alloc (.cells #[.int .i64 f.rule, .int .i64 f.place, .slice Atx f.touched.length ctx, .slice Aix f.involved.length cix, .bool f.tainted] 69)) wr.heap.size _ _ from Blk.new wr _ _)
      have HXB := Lib.hid ((ext_refl wr).alloc (Nat.le_refl _) (.cells #[.int .i64 f.rule, .int .i64 f.place, .slice Atx f.touched.length ctx, .slice Aix f.involved.length cix, .bool f.tainted] 69))
      have HWR := Lib.hid hWr
      clear hWr hbr hf
      go_wp2_with (first
        | (go_at_call 11; refine (HVk.out _ (ext_trans HWR.out HXB.out)).mono ?_; rintro e w10 ⟨u, rfl, ⟨A1, c1, rfl⟩, hrow1, hb10⟩))
      have hb10r := ext_trans HXB.out hb10
      have q0 := (hb10r.cell (p := ⟨gp, k * 2, none⟩) hgp).trans p0
      have q1 := (hb10r.cell (p := ⟨gp, k * 2 + 1, none⟩) hgp).trans p1
      have hX := HX.out.ext hb10
      have x0 := hX.cell 0
      have x1 := hX.cell 1
      have x2 := hX.cell 2
      have x3 := hX.cell 3
      have xl := hX.lt
      have hgp10 : gp < w10.heap.size := Nat.lt_of_lt_of_le hgp hb10r.size
      have HR10 := Lib.hid (And.intro hrow1 (And.intro hb10r (And.intro hb10 hX)))
      have hiv : Ints w10 (.slice Aix f.involved.length cix) f.involved := (HTI.out.2.keep (S := fun _ => False) (Upd.of_ext hb10r) (fun _ _ h => h)).ints
      have htv : Ints w10 (.slice Atx f.touched.length ctx) f.touched := (HTI.out.1.keep (S := fun _ => False) (Upd.of_ext hb10r) (fun _ _ h => h)).ints
      have hu1 : Ints w10 (.slice A1 f.involved.length c1) f.involved := Reads.of_own hrow1
      have hext : ∀ {l : List Int} {v : Value} W, Below w10.heap.size w10 W → Ints w10 v l → Ints W v l := fun W hb h => h.of_cells (fun a u ha => (hb.cell (World.block_lt_of_cell? w10 a ha)).trans ha)
      have HSI := Lib.hid (fun W (hb : Below w10.heap.size w10 W) => sameInts_any f.involved f.involved (.slice A1 f.involved.length c1) (.slice Aix f.involved.length cix) W (hext W hb hu1) (hext W hb hiv))
      have HFR := Lib.hid (fun W (hb : Below w10.heap.size w10 W) => HFk.out W (ext_trans HWR.out (ext_trans hb10r hb)) (.slice Atx f.touched.length ctx) (hext W hb htv))
      have en1 : (f.rule != f.rule) = false := by simp
      have en2 : (f.place != f.place) = false := by simp
      clear p0 p1 g0 g1 g2 g3 g4 r0 hrow1 hb10r hb10 hX hiv htv hu1 hext
      refine AtE.start (S := fun w' => w'.cell? ⟨gp, k * 2, none⟩ = some (.int .i64 f.rule) ∧ w'.cell? ⟨gp, k * 2 + 1, none⟩ = some (.int .i64 f.place) ∧ w'.cell? ⟨wr.heap.size, 0, none⟩ = some (.int .i64 f.rule) ∧ w'.cell? ⟨wr.heap.size, 1, none⟩ = some (.int .i64 f.place) ∧ w'.cell? ⟨wr.heap.size, 2, none⟩ = some (.slice Atx f.touched.length ctx) ∧ w'.cell? ⟨wr.heap.size, 3, none⟩ = some (.slice Aix f.involved.length cix)) 32 (by kernel_rfl) (by kernel_rfl) (by exact ⟨by simpa using q0, by simpa using q1, by simpa using x0, by simpa using x1, by simpa using x2, by simpa using x3⟩) (fun hHeld => ?_)
      refine AtE.take (i := 0) (v := ?_) rfl (by kernel_rfl) (by kernel_rfl) (by kernel_rfl) (fun _ _ _ h => h) (by decide) (Or.inl ⟨by rfl, ?_⟩) hHeld ?_
      rotate_left
      · intro w hSw; go_simp; try (with_reducible rfl)
      simp only [Act.put, List.setIfInBounds_toArray, List.set_cons_zero, List.set_cons_succ]
      refine AtE.take (i := 1) (v := ?_) rfl (by kernel_rfl) (by kernel_rfl) (by kernel_rfl) (fun _ _ _ h => h) (by decide) (Or.inl ⟨by rfl, ?_⟩) hHeld ?_
      rotate_left
      · intro w hSw; go_simp; try (with_reducible rfl)
      simp only [Act.put, List.setIfInBounds_toArray, List.set_cons_zero, List.set_cons_succ]
      refine AtE.take (i := 2) (v := ?_) rfl (by kernel_rfl) (by kernel_rfl) (by kernel_rfl) (fun _ _ _ h => h) (by decide) (Or.inl ⟨by rfl, ?_⟩) hHeld ?_
      rotate_left
      · intro w hSw; go_simp; try (with_reducible rfl)
      simp only [Act.put, List.setIfInBounds_toArray, List.set_cons_zero, List.set_cons_succ]
      refine AtE.take (i := 3) (v := ?_) rfl (by kernel_rfl) (by kernel_rfl) (by kernel_rfl) (fun _ _ _ h => h) (by decide) (Or.inl ⟨by rfl, ?_⟩) hHeld ?_
      rotate_left
      · intro w hSw; go_simp; try (with_reducible rfl)
      simp only [Act.put, List.setIfInBounds_toArray, List.set_cons_zero, List.set_cons_succ]
      refine AtE.take (i := 4) (v := ?_) rfl (by kernel_rfl) (by kernel_rfl) (by kernel_rfl) (fun _ _ _ h => h) (by decide) (Or.inl ⟨by rfl, ?_⟩) hHeld ?_
      rotate_left
      · intro w hSw; go_simp; try (with_reducible rfl)
      simp only [Act.put, List.setIfInBounds_toArray, List.set_cons_zero, List.set_cons_succ]
      refine AtE.take (i := 5) (v := ?_) rfl (by kernel_rfl) (by kernel_rfl) (by kernel_rfl) (fun _ _ _ h => h) (by decide) (Or.inl ⟨by rfl, ?_⟩) hHeld ?_
      rotate_left
      · intro w hSw; go_simp; try (with_reducible rfl)
      simp only [Act.put, List.setIfInBounds_toArray, List.set_cons_zero, List.set_cons_succ]
      refine AtE.take (i := 6) (v := ?_) rfl (by kernel_rfl) (by kernel_rfl) (by kernel_rfl) (fun _ _ _ h => h) (by decide) (Or.inl ⟨by rfl, ?_⟩) hHeld ?_
      rotate_left
      · intro w hSw; go_simp; try (with_reducible rfl)
      simp only [Act.put, List.setIfInBounds_toArray, List.set_cons_zero, List.set_cons_succ]
      refine AtE.take (i := 7) (v := ?_) rfl (by kernel_rfl) (by kernel_rfl) (by kernel_rfl) (fun _ _ _ h => h) (by decide) (Or.inl ⟨by rfl, ?_⟩) hHeld ?_
      rotate_left
      · intro w hSw; go_simp; try (with_reducible rfl)
      simp only [Act.put, List.setIfInBounds_toArray, List.set_cons_zero, List.set_cons_succ]
      refine AtE.take (i := 8) (v := ?_) rfl (by kernel_rfl) (by kernel_rfl) (by kernel_rfl) (fun _ _ _ h => h) (by decide) (Or.inl ⟨by rfl, ?_⟩) hHeld ?_
      rotate_left
      · intro w hSw; go_simp; try (with_reducible rfl)
      simp only [Act.put, List.setIfInBounds_toArray, List.set_cons_zero, List.set_cons_succ]
      refine AtE.take (i := 9) (v := ?_) rfl (by kernel_rfl) (by kernel_rfl) (by kernel_rfl) (fun _ _ _ h => h) (by decide) (Or.inl ⟨by rfl, ?_⟩) hHeld ?_
      rotate_left
      · intro w hSw; go_simp; try (with_reducible rfl)
      simp only [Act.put, List.setIfInBounds_toArray, List.set_cons_zero, List.set_cons_succ]
      refine AtE.take (i := 10) (v := ?_) rfl (by kernel_rfl) (by kernel_rfl) (by kernel_rfl) (fun _ _ _ h => h) (by decide) (Or.inl ⟨by rfl, ?_⟩) hHeld ?_
      rotate_left
      · intro w hSw; go_simp; try (with_reducible rfl)
      simp only [Act.put, List.setIfInBounds_toArray, List.set_cons_zero, List.set_cons_succ]
      refine AtE.take (i := 11) (v := ?_) rfl (by kernel_rfl) (by kernel_rfl) (by kernel_rfl) (fun _ _ _ h => h) (by decide) (Or.inl ⟨by rfl, ?_⟩) hHeld ?_
      rotate_left
      · intro w hSw; go_simp; try (with_reducible rfl)
      simp only [Act.put, List.setIfInBounds_toArray, List.set_cons_zero, List.set_cons_succ]
      refine AtE.take (i := 12) (v := ?_) rfl (by kernel_rfl) (by kernel_rfl) (by kernel_rfl) (fun _ _ _ h => h) (by decide) (Or.inl ⟨by rfl, ?_⟩) hHeld ?_
      rotate_left
      · intro w hSw; go_simp; try (with_reducible rfl)
      simp only [Act.put, List.setIfInBounds_toArray, List.set_cons_zero, List.set_cons_succ]
      refine AtE.take (i := 13) (v := ?_) rfl (by kernel_rfl) (by kernel_rfl) (by kernel_rfl) (fun _ _ _ h => h) (by decide) (Or.inl ⟨by rfl, ?_⟩) hHeld ?_
      rotate_left
      · intro w hSw; go_simp; try (with_reducible rfl)
      simp only [Act.put, List.setIfInBounds_toArray, List.set_cons_zero, List.set_cons_succ]
      refine AtE.take (i := 14) (v := ?_) rfl (by kernel_rfl) (by kernel_rfl) (by kernel_rfl) (fun _ _ _ h => h) (by decide) (Or.inl ⟨by rfl, ?_⟩) hHeld ?_
      rotate_left
      · intro w hSw; go_simp; try (with_reducible rfl)
      simp only [Act.put, List.setIfInBounds_toArray, List.set_cons_zero, List.set_cons_succ]
      refine AtE.take (i := 15) (v := ?_) rfl (by kernel_rfl) (by kernel_rfl) (by kernel_rfl) (fun _ _ _ h => h) (by decide) (Or.inl ⟨by rfl, ?_⟩) hHeld ?_
      rotate_left
      · intro w hSw; go_simp; try (with_reducible rfl)
      simp only [Act.put, List.setIfInBounds_toArray, List.set_cons_zero, List.set_cons_succ]
      refine AtE.take (i := 16) (v := ?_) rfl (by kernel_rfl) (by kernel_rfl) (by kernel_rfl) (fun _ _ _ h => h) (by decide) (Or.inl ⟨by rfl, ?_⟩) hHeld ?_
      rotate_left
      · intro w hSw; go_simp; try (with_reducible rfl)
      simp only [Act.put, List.setIfInBounds_toArray, List.set_cons_zero, List.set_cons_succ]
      refine AtE.take (i := 17) (v := ?_) rfl (by kernel_rfl) (by kernel_rfl) (by kernel_rfl) (fun _ _ _ h => h) (by decide) (Or.inl ⟨by rfl, ?_⟩) hHeld ?_
      rotate_left
      · intro w hSw; go_simp; try (with_reducible rfl)
      simp only [Act.put, List.setIfInBounds_toArray, List.set_cons_zero, List.set_cons_succ]
      refine AtE.take (i := 18) (v := ?_) rfl (by kernel_rfl) (by kernel_rfl) (by kernel_rfl) (fun _ _ _ h => h) (by decide) (Or.inl ⟨by rfl, ?_⟩) hHeld ?_
      rotate_left
      · intro w hSw; go_simp; try (with_reducible rfl)
      simp only [Act.put, List.setIfInBounds_toArray, List.set_cons_zero, List.set_cons_succ]
      refine AtE.take (i := 19) (v := ?_) rfl (by kernel_rfl) (by kernel_rfl) (by kernel_rfl) (fun _ _ _ h => h) (by decide) (Or.inl ⟨by rfl, ?_⟩) hHeld ?_
      rotate_left
      · intro w hSw; go_simp; try (with_reducible rfl)
      simp only [Act.put, List.setIfInBounds_toArray, List.set_cons_zero, List.set_cons_succ]
      refine AtE.take (i := 20) (v := ?_) rfl (by kernel_rfl) (by kernel_rfl) (by kernel_rfl) (fun _ _ _ h => h) (by decide) (Or.inl ⟨by rfl, ?_⟩) hHeld ?_
      rotate_left
      · intro w hSw; go_simp; try (with_reducible rfl)
      simp only [Act.put, List.setIfInBounds_toArray, List.set_cons_zero, List.set_cons_succ]
      refine AtE.take (i := 21) (v := ?_) rfl (by kernel_rfl) (by kernel_rfl) (by kernel_rfl) (fun _ _ _ h => h) (by decide) (Or.inl ⟨by rfl, ?_⟩) hHeld ?_
      rotate_left
      · intro w hSw; go_simp; try (with_reducible rfl)
      simp only [Act.put, List.setIfInBounds_toArray, List.set_cons_zero, List.set_cons_succ]
      refine AtE.one (i := 22) rfl (by kernel_rfl) (fun K hK => ?_)
      go_simp
      refine (HSI.out _ (ext_refl w10).drew).mono ?_
      rintro e w11 ⟨rfl, hdr⟩
      have hq11 : Below w10.heap.size w10 w11 := ext_trans (ext_refl w10).drew (drew_ext hdr)
      rw [decide_eq_true rfl]
      clear hdr
      refine hK.out _ _ (fun _ => ⟨(hq11.cell (p := ⟨gp, k * 2, none⟩) hgp10).trans q0, (hq11.cell (p := ⟨gp, k * 2 + 1, none⟩) hgp10).trans q1, (hq11.cell (p := ⟨wr.heap.size, 0, none⟩) xl).trans x0, (hq11.cell (p := ⟨wr.heap.size, 1, none⟩) xl).trans x1, (hq11.cell (p := ⟨wr.heap.size, 2, none⟩) xl).trans x2, (hq11.cell (p := ⟨wr.heap.size, 3, none⟩) xl).trans x3⟩) (fun hHeld' => ?_)
      have hHeld := hHeld' (by decide)
      clear hK K hHeld'
      have HQ11 := Lib.hid hq11
      clear hq11
      refine AtE.take (i := 23) (v := ?_) rfl (by kernel_rfl) (by kernel_rfl) (by kernel_rfl) (fun _ _ _ h => h) (by decide) (Or.inl ⟨by rfl, ?_⟩) hHeld ?_
      rotate_left
      · intro w hSw; go_simp; try (with_reducible rfl)
      simp only [Act.put, List.setIfInBounds_toArray, List.set_cons_zero, List.set_cons_succ]
      refine AtE.take (i := 24) (v := ?_) rfl (by kernel_rfl) (by kernel_rfl) (by kernel_rfl) (fun _ _ _ h => h) (by decide) (Or.inl ⟨by rfl, ?_⟩) hHeld ?_
      rotate_left
      · intro w hSw; go_simp; try (with_reducible rfl)
      simp only [Act.put, List.setIfInBounds_toArray, List.set_cons_zero, List.set_cons_succ]
      refine AtE.take (i := 25) (v := ?_) rfl (by kernel_rfl) (by kernel_rfl) (by kernel_rfl) (fun _ _ _ h => h) (by decide) (Or.inl ⟨by rfl, ?_⟩) hHeld ?_
      rotate_left
      · intro w hSw; go_simp; try (with_reducible rfl)
      simp only [Act.put, List.setIfInBounds_toArray, List.set_cons_zero, List.set_cons_succ]
      refine AtE.take (i := 26) (v := ?_) rfl (by kernel_rfl) (by kernel_rfl) (by kernel_rfl) (fun _ _ _ h => h) (by decide) (Or.inl ⟨by rfl, ?_⟩) hHeld ?_
      rotate_left
      · intro w hSw; go_simp; try (with_reducible rfl)
      simp only [Act.put, List.setIfInBounds_toArray, List.set_cons_zero, List.set_cons_succ]
      refine AtE.take (i := 27) (v := ?_) rfl (by kernel_rfl) (by kernel_rfl) (by kernel_rfl) (fun _ _ _ h => h) (by decide) (Or.inl ⟨by rfl, ?_⟩) hHeld ?_
      rotate_left
      · intro w hSw; go_simp; try (with_reducible rfl)
      simp only [Act.put, List.setIfInBounds_toArray, List.set_cons_zero, List.set_cons_succ]
      refine AtE.take (i := 28) (v := ?_) rfl (by kernel_rfl) (by kernel_rfl) (by kernel_rfl) (fun _ _ _ h => h) (by decide) (Or.inl ⟨by rfl, ?_⟩) hHeld ?_
      rotate_left
      · intro w hSw; go_simp; try (with_reducible rfl)
      simp only [Act.put, List.setIfInBounds_toArray, List.set_cons_zero, List.set_cons_succ]
      refine AtE.take (i := 29) (v := ?_) rfl (by kernel_rfl) (by kernel_rfl) (by kernel_rfl) (fun _ _ _ h => h) (by decide) (Or.inl ⟨by rfl, ?_⟩) hHeld ?_
      rotate_left
      · intro w hSw; go_simp; try (with_reducible rfl)
      simp only [Act.put, List.setIfInBounds_toArray, List.set_cons_zero, List.set_cons_succ]
      refine AtE.take (i := 30) (v := ?_) rfl (by kernel_rfl) (by kernel_rfl) (by kernel_rfl) (fun _ _ _ h => h) (by decide) (Or.inl ⟨by rfl, ?_⟩) hHeld ?_
      rotate_left
      · intro w hSw; go_simp; try (with_reducible rfl)
      simp only [Act.put, List.setIfInBounds_toArray, List.set_cons_zero, List.set_cons_succ]
      refine AtE.one (i := 31) rfl (by kernel_rfl) (fun K hK => ?_)
      go_simp
      refine (HFR.out _ HQ11.out).mono ?_
      rintro e w12 ⟨rfl, hdr⟩
      have hq12 : Below w10.heap.size w10 w12 := ext_trans HQ11.out hdr
      clear hdr
      refine hK.out _ _ (fun _ => ⟨(hq12.cell (p := ⟨gp, k * 2, none⟩) hgp10).trans q0, (hq12.cell (p := ⟨gp, k * 2 + 1, none⟩) hgp10).trans q1, (hq12.cell (p := ⟨wr.heap.size, 0, none⟩) xl).trans x0, (hq12.cell (p := ⟨wr.heap.size, 1, none⟩) xl).trans x1, (hq12.cell (p := ⟨wr.heap.size, 2, none⟩) xl).trans x2, (hq12.cell (p := ⟨wr.heap.size, 3, none⟩) xl).trans x3⟩) (fun hHeld' => ?_)
      have hHeld := hHeld' (by decide)
      clear hK K hHeld'
      have HQ12 := Lib.hid hq12
      clear hq12
      refine AtE.one (i := 32) rfl (by kernel_rfl) (fun K hK => ?_)
      go_simp
      refine hK.out _ _ (fun h => absurd rfl h) (fun _ => ?_)
      clear hK K
      refine AtE.done (by kernel_rfl) ?_
      clear hHeld q0 q1 x0 x1 x2 x3 xl hgp10 en1 en2
      have hsz10 : w8.heap.size ≤ w10.heap.size := Nat.le_trans HBR.out.size HR10.out.2.1.size
      have HB12 := Lib.hid (show Below w8.heap.size w8 w12 from ext_trans (ext_trans HBR.out HR10.out.2.1) HQ12.out)
      have hrow12 := ownsRow_keep (S := fun _ => False) HR10.out.1 (Upd.of_ext HQ12.out) (fun _ _ h => h)
      have hiL : f.involved.length ≤ 9223372036854775807 := by
        obtain ⟨_, _, e, h1, h2, _⟩ := hrow12.1 |> fun _ => (Reads.of_own hrow12)
        injection e with _ _ e3
        unfold maxLen at h2
        omega
      go_wp2
      rcases Nat.eq_zero_or_pos f.involved.length with hz | hz
      · rw [hz]
        go_loopw [11] (fun j wr => j = .int .i64 0 ∧ w12 = wr) (fun _ _ => 0)
        case atStart => exact ⟨rfl, rfl⟩
        case round =>
          obtain ⟨rfl, rfl⟩ := hrel
          go_wp2
          go_roundw
          case rel => exact ⟨k + 1, by omega, by go_num, HB12.out⟩
          case measure => simp [intOf]; omega
      · obtain ⟨gi, capi, ei, hgi, _⟩ := hrow12.form hz
        injection ei with ei1 _ ei3
        subst ei1 ei3
        obtain ⟨cs0, hcs0, hcz, hcn, hcm⟩ := own_room hrow12
        unfold maxLen at hcm
        generalize f.involved.length = ni at *
        have HGI := Lib.hid (show w8.heap.size ≤ gi from Nat.le_trans (Nat.le_trans HBR.out.size HXB.out.size) hgi)
        have HC0 := Lib.hid (And.intro hcs0 hcz)
        clear hrow12 hcs0 hcz hgi
        go_loopw [11] (fun j wr => ∃ m : Nat, m ≤ ni ∧ j = .int .i64 m ∧ (∃ cs', Blk wr gi 3 cs' ∧ cs'.size = c1) ∧ Upd (· = gi) w12 wr) (fun j _ => ni - (intOf j).toNat)
        case atStart => exact ⟨0, Nat.zero_le _, rfl, ⟨cs0, HC0.out⟩, Upd.refl _ _⟩
        case round =>
          obtain ⟨m, hm, rfl, ⟨cs', hb', hs'⟩, hu⟩ := hrel
          by_cases hltm : m < ni
          · obtain ⟨y, hcell⟩ : ∃ y, wr.cell? ⟨gi, m, none⟩ = some y := by
              rw [hb'.cell]; exact ⟨cs'[m]'(by omega), Array.getElem?_eq_getElem (by omega)⟩
            have hfz := hb'.frozen m
            have hgl := hb'.lt
            have hml : (m : Int) < (ni : Int) := by omega
            have HS' := Lib.hid (And.intro hb' (And.intro hs' hu))
            clear hs' hb' hu
            go_wp2
            go_roundw
            case rel => exact ⟨m + 1, by omega, by go_num, ⟨_, HS'.out.1.set_ m _, by simpa using HS'.out.2.1⟩, HS'.out.2.2.trans (setCell_upd wr gi m _)⟩
            case measure => simp [intOf]; omega
          · obtain rfl : m = ni := by omega
            have HU' := Lib.hid hu
            clear hs' hb' hu
            go_wp2
            go_roundw
            case rel => exact ⟨k + 1, by omega, by go_num, HB12.out.trans (HU'.out.below HB12.out.size (fun j hj e => by have := HGI.out; omega))⟩
            case measure => simp [intOf]; omega
    · obtain rfl : k = l.length := by omega
      go_wp2
      go_ret
      exact ⟨rfl, ext_trans HW8.out hbr⟩
end Go.Proofs.Ytjmidomcgaijjaa
