/- Of no stack: the law's own function. -/
import Derived.Test.YtjmidomcgaijjaaNone
import Derived.Test.YtjmidomcgaijjaaHeld
namespace Go.Proofs.Ytjmidomcgaijjaa
set_option linter.unusedVariables false
set_option linter.unusedSimpArgs false
open Go.RowKit

set_option maxRecDepth 100000 in
set_option maxHeartbeats 3200000 in
theorem none_any (w : World) : Calls Try.prog 34 #[] w fun e w' => e = .returned (.bool true) ∧ Below w.heap.size w w' := by
  go_enter Try.func34, Try.ntmps34
  go_wp2
  have hb0 := (ext_refl w).alloc (Nat.le_refl _) (.cells #[.bool false, .slice none 0 0] 78)
  have hB0 : Blk (w.alloc (.cells #[.bool false, .slice none 0 0] 78)) w.heap.size _ _ := Blk.new w _ _
  have hb1 := (ext_refl (w.alloc (.cells #[.bool false, .slice none 0 0] 78))).alloc (Nat.le_refl _) (.cells #[.pointer none, .pointer (some ⟨w.heap.size, 0, none⟩)] 25)
  have hB1 : Blk ((w.alloc (.cells #[.bool false, .slice none 0 0] 78)).alloc (.cells #[.pointer none, .pointer (some ⟨w.heap.size, 0, none⟩)] 25)) (w.heap.size + 1) 25 #[.pointer none, .pointer (some ⟨w.heap.size, 0, none⟩)] := by
    have := Blk.new (w.alloc (.cells #[.bool false, .slice none 0 0] 78)) 25 #[.pointer none, .pointer (some ⟨w.heap.size, 0, none⟩)]
    simpa using this
  have hB0' := hB0.ext hb1
  have H1 := Lib.hid (And.intro (ext_trans hb0 hb1) (And.intro hB0' hB1))
  generalize hw1 : ((w.alloc (.cells #[.bool false, .slice none 0 0] 78)).alloc (.cells #[.pointer none, .pointer (some ⟨w.heap.size, 0, none⟩)] 25)) = w1 at *
  clear hb0 hB0 hb1 hB1 hB0' hw1
  go_loopw [2] (fun i wr => ∃ k : Nat, k ≤ 2 ∧ i = .int .i64 k ∧ Below w1.heap.size w1 wr) (fun i _ => 2 - (intOf i).toNat)
  case atStart => exact ⟨0, by omega, rfl, ext_refl _⟩
  case round =>
    obtain ⟨k, hk, rfl, hbr⟩ := hrel
    have HBR := Lib.hid hbr
    by_cases hlt : k < 2
    · have hP : ∃ P, wr.cell? ⟨w.heap.size + 1, k, none⟩ = some (.pointer P) ∧ NoStk wr (.pointer P) := by
        have hc := (H1.out.2.2.ext hbr).cell k
        have h0 := (H1.out.2.1.ext hbr).cell 0
        have hk' : k = 0 ∨ k = 1 := by omega
        rcases hk' with rfl | rfl
        · exact ⟨_, hc, noStk_none _⟩
        · exact ⟨_, hc, NoStk.unmade h0⟩
      obtain ⟨P, hcP, hP⟩ := hP
      have hkl : (k : Int) < 2 := by omega
      have HP := Lib.hid (fun W (h : Below wr.heap.size wr W) => hP.ext h)
      clear hP hbr
      go_wp2_with (first
        | (go_at_call 27; refine (leave_no (HP.out _ (ext_refl _))).mono ?_; rintro e w2 ⟨rfl, hb2⟩))
      have hb3 := ext_trans hb2 ((ext_refl w2).alloc (Nat.le_refl _) (.cells #[.int .i64 0, .int .i64 0, .slice none 0 0, .bool false] 65))
      have hX : Blk (w2.alloc (.cells #[.int .i64 0, .int .i64 0, .slice none 0 0, .bool false] 65)) w2.heap.size _ _ := Blk.new w2 _ _
      generalize hw3 : w2.alloc (.cells #[.int .i64 0, .int .i64 0, .slice none 0 0, .bool false] 65) = w3 at *
      have x2 := hX.cell 2
      have x3 := hX.cell 3
      have xl := hX.lt
      have HQ0 := Lib.hid hb3
      clear hX hb2 hb3 hw3 hcP
      refine AtE.start (S := fun w' => w'.cell? ⟨w2.heap.size, 2, none⟩ = some (.slice none 0 0) ∧ w'.cell? ⟨w2.heap.size, 3, none⟩ = some (.bool false)) 47 (by kernel_rfl) (by kernel_rfl) (by exact ⟨by simpa using x2, by simpa using x3⟩) (fun hHeld => ?_)
      refine AtE.take (i := 0) (v := ?_) rfl (by kernel_rfl) (by kernel_rfl) (by kernel_rfl) (fun _ _ _ h => h) (by decide) (Or.inl ⟨by rfl, ?_⟩) hHeld ?_
      rotate_left
      · intro w hSw; go_simp; try (with_reducible rfl)
      simp only [Act.put, List.setIfInBounds_toArray, List.set_cons_zero, List.set_cons_succ]
      refine AtE.one (i := 1) rfl (by kernel_rfl) (fun K hK => ?_)
      go_simp
      refine (enter_no (HP.out _ (ext_trans HQ0.out (ext_refl w3).drew)) _ _).mono ?_
      rintro e v1 ⟨rfl, hdr⟩
      have hq1 : Below w3.heap.size w3 v1 := ext_trans (ext_refl w3).drew hdr
      refine hK.out _ _ (fun _ => ⟨(hq1.cell (p := ⟨w2.heap.size, 2, none⟩) xl).trans x2, (hq1.cell (p := ⟨w2.heap.size, 3, none⟩) xl).trans x3⟩) (fun hHeld' => ?_)
      have hHeld := hHeld' (by decide)
      clear hK K hHeld' hdr
      have HQ1 := Lib.hid hq1
      clear hq1
      refine AtE.take (i := 2) (v := ?_) rfl (by kernel_rfl) (by kernel_rfl) (by kernel_rfl) (fun _ _ _ h => h) (by decide) (Or.inl ⟨by rfl, ?_⟩) hHeld ?_
      rotate_left
      · intro w hSw; go_simp; try (with_reducible rfl)
      simp only [Act.put, List.setIfInBounds_toArray, List.set_cons_zero, List.set_cons_succ]
      refine AtE.take (i := 3) (v := ?_) rfl (by kernel_rfl) (by kernel_rfl) (by kernel_rfl) (fun _ _ _ h => h) (by decide) (Or.inl ⟨by rfl, ?_⟩) hHeld ?_
      rotate_left
      · intro w hSw; go_simp; try (with_reducible rfl)
      simp only [Act.put, List.setIfInBounds_toArray, List.set_cons_zero, List.set_cons_succ]
      refine AtE.take (i := 4) (v := ?_) rfl (by kernel_rfl) (by kernel_rfl) (by kernel_rfl) (fun _ _ _ h => h) (by decide) (Or.inl ⟨by rfl, ?_⟩) hHeld ?_
      rotate_left
      · intro w hSw; go_simp; try (with_reducible rfl)
      simp only [Act.put, List.setIfInBounds_toArray, List.set_cons_zero, List.set_cons_succ]
      refine AtE.one (i := 5) rfl (by kernel_rfl) (fun K hK => ?_)
      go_simp
      refine (read_no (HP.out _ (ext_trans HQ0.out HQ1.out)) _ _).mono ?_
      rintro e v5 ⟨rfl, hdr⟩
      have hq5 : Below w3.heap.size w3 v5 := ext_trans HQ1.out hdr
      refine hK.out _ _ (fun _ => ⟨(hq5.cell (p := ⟨w2.heap.size, 2, none⟩) xl).trans x2, (hq5.cell (p := ⟨w2.heap.size, 3, none⟩) xl).trans x3⟩) (fun hHeld' => ?_)
      have hHeld := hHeld' (by decide)
      clear hK K hHeld' hdr
      have HQ5 := Lib.hid hq5
      clear hq5
      refine AtE.take (i := 6) (v := ?_) rfl (by kernel_rfl) (by kernel_rfl) (by kernel_rfl) (fun _ _ _ h => h) (by decide) (Or.inl ⟨by rfl, ?_⟩) hHeld ?_
      rotate_left
      · intro w hSw; go_simp; try (with_reducible rfl)
      simp only [Act.put, List.setIfInBounds_toArray, List.set_cons_zero, List.set_cons_succ]
      refine AtE.take (i := 7) (v := ?_) rfl (by kernel_rfl) (by kernel_rfl) (by kernel_rfl) (fun _ _ _ h => h) (by decide) (Or.inl ⟨by rfl, ?_⟩) hHeld ?_
      rotate_left
      · intro w hSw; go_simp; try (with_reducible rfl)
      simp only [Act.put, List.setIfInBounds_toArray, List.set_cons_zero, List.set_cons_succ]
      refine AtE.take (i := 8) (v := ?_) rfl (by kernel_rfl) (by kernel_rfl) (by kernel_rfl) (fun _ _ _ h => h) (by decide) (Or.inl ⟨by rfl, ?_⟩) hHeld ?_
      rotate_left
      · intro w hSw; go_simp; try (with_reducible rfl)
      simp only [Act.put, List.setIfInBounds_toArray, List.set_cons_zero, List.set_cons_succ]
      refine AtE.take (i := 9) (v := ?_) rfl (by kernel_rfl) (by kernel_rfl) (by kernel_rfl) (fun _ _ _ h => h) (by decide) (Or.inl ⟨by rfl, ?_⟩) hHeld ?_
      rotate_left
      · intro w hSw; go_simp; try (with_reducible rfl)
      simp only [Act.put, List.setIfInBounds_toArray, List.set_cons_zero, List.set_cons_succ]
      refine AtE.one (i := 10) rfl (by kernel_rfl) (fun K hK => ?_)
      go_simp
      refine (use_no (HP.out _ (ext_trans HQ0.out HQ5.out)) _ _).mono ?_
      rintro e v10 ⟨rfl, hdr⟩
      have hq10 : Below w3.heap.size w3 v10 := ext_trans HQ5.out hdr
      refine hK.out _ _ (fun _ => ⟨(hq10.cell (p := ⟨w2.heap.size, 2, none⟩) xl).trans x2, (hq10.cell (p := ⟨w2.heap.size, 3, none⟩) xl).trans x3⟩) (fun hHeld' => ?_)
      have hHeld := hHeld' (by decide)
      clear hK K hHeld' hdr
      have HQ10 := Lib.hid hq10
      clear hq10
      refine AtE.take (i := 11) (v := ?_) rfl (by kernel_rfl) (by kernel_rfl) (by kernel_rfl) (fun _ _ _ h => h) (by decide) (Or.inl ⟨by rfl, ?_⟩) hHeld ?_
      rotate_left
      · intro w hSw; go_simp; try (with_reducible rfl)
      simp only [Act.put, List.setIfInBounds_toArray, List.set_cons_zero, List.set_cons_succ]
      refine AtE.take (i := 12) (v := ?_) rfl (by kernel_rfl) (by kernel_rfl) (by kernel_rfl) (fun _ _ _ h => h) (by decide) (Or.inl ⟨by rfl, ?_⟩) hHeld ?_
      rotate_left
      · intro w hSw; go_simp; try (with_reducible rfl)
      simp only [Act.put, List.setIfInBounds_toArray, List.set_cons_zero, List.set_cons_succ]
      refine AtE.take (i := 13) (v := ?_) rfl (by kernel_rfl) (by kernel_rfl) (by kernel_rfl) (fun _ _ _ h => h) (by decide) (Or.inl ⟨by rfl, ?_⟩) hHeld ?_
      rotate_left
      · intro w hSw; go_simp; try (with_reducible rfl)
      simp only [Act.put, List.setIfInBounds_toArray, List.set_cons_zero, List.set_cons_succ]
      refine AtE.take (i := 14) (v := ?_) rfl (by kernel_rfl) (by kernel_rfl) (by kernel_rfl) (fun _ _ _ h => h) (by decide) (Or.inl ⟨by rfl, ?_⟩) hHeld ?_
      rotate_left
      · intro w hSw; go_simp; try (with_reducible rfl)
      simp only [Act.put, List.setIfInBounds_toArray, List.set_cons_zero, List.set_cons_succ]
      refine AtE.take (i := 15) (v := ?_) rfl (by kernel_rfl) (by kernel_rfl) (by kernel_rfl) (fun _ _ _ h => h) (by decide) (Or.inl ⟨by rfl, ?_⟩) hHeld ?_
      rotate_left
      · intro w hSw; go_simp; try (with_reducible rfl)
      simp only [Act.put, List.setIfInBounds_toArray, List.set_cons_zero, List.set_cons_succ]
      refine AtE.take (i := 16) (v := ?_) rfl (by kernel_rfl) (by kernel_rfl) (by kernel_rfl) (fun _ _ _ h => h) (by decide) (Or.inl ⟨by rfl, ?_⟩) hHeld ?_
      rotate_left
      · intro w hSw; go_simp; try (with_reducible rfl)
      simp only [Act.put, List.setIfInBounds_toArray, List.set_cons_zero, List.set_cons_succ]
      refine AtE.take (i := 17) (v := ?_) rfl (by kernel_rfl) (by kernel_rfl) (by kernel_rfl) (fun _ _ _ h => h) (by decide) (Or.inl ⟨by rfl, ?_⟩) hHeld ?_
      rotate_left
      · intro w hSw; go_simp; try (with_reducible rfl)
      simp only [Act.put, List.setIfInBounds_toArray, List.set_cons_zero, List.set_cons_succ]
      refine AtE.take (i := 18) (v := ?_) rfl (by kernel_rfl) (by kernel_rfl) (by kernel_rfl) (fun _ _ _ h => h) (by decide) (Or.inl ⟨by rfl, ?_⟩) hHeld ?_
      rotate_left
      · intro w hSw; go_simp; try (with_reducible rfl)
      simp only [Act.put, List.setIfInBounds_toArray, List.set_cons_zero, List.set_cons_succ]
      refine AtE.take (i := 19) (v := ?_) rfl (by kernel_rfl) (by kernel_rfl) (by kernel_rfl) (fun _ _ _ h => h) (by decide) (Or.inl ⟨by rfl, ?_⟩) hHeld ?_
      rotate_left
      · intro w hSw; go_simp; try (with_reducible rfl)
      simp only [Act.put, List.setIfInBounds_toArray, List.set_cons_zero, List.set_cons_succ]
      refine AtE.take (i := 20) (v := ?_) rfl (by kernel_rfl) (by kernel_rfl) (by kernel_rfl) (fun _ _ _ h => h) (by decide) (Or.inl ⟨by rfl, ?_⟩) hHeld ?_
      rotate_left
      · intro w hSw; go_simp; try (with_reducible rfl)
      simp only [Act.put, List.setIfInBounds_toArray, List.set_cons_zero, List.set_cons_succ]
      refine AtE.take (i := 21) (v := ?_) rfl (by kernel_rfl) (by kernel_rfl) (by kernel_rfl) (fun _ _ _ h => h) (by decide) (Or.inl ⟨by rfl, ?_⟩) hHeld ?_
      rotate_left
      · intro w hSw; go_simp; try (with_reducible rfl)
      simp only [Act.put, List.setIfInBounds_toArray, List.set_cons_zero, List.set_cons_succ]
      refine AtE.take (i := 22) (v := ?_) rfl (by kernel_rfl) (by kernel_rfl) (by kernel_rfl) (fun _ _ _ h => h) (by decide) (Or.inl ⟨by rfl, ?_⟩) hHeld ?_
      rotate_left
      · intro w hSw; go_simp; try (with_reducible rfl)
      simp only [Act.put, List.setIfInBounds_toArray, List.set_cons_zero, List.set_cons_succ]
      refine AtE.take (i := 23) (v := ?_) rfl (by kernel_rfl) (by kernel_rfl) (by kernel_rfl) (fun _ _ _ h => h) (by decide) (Or.inl ⟨by rfl, ?_⟩) hHeld ?_
      rotate_left
      · intro w hSw; go_simp; try (with_reducible rfl)
      simp only [Act.put, List.setIfInBounds_toArray, List.set_cons_zero, List.set_cons_succ]
      refine AtE.take (i := 24) (v := ?_) rfl (by kernel_rfl) (by kernel_rfl) (by kernel_rfl) (fun _ _ _ h => h) (by decide) (Or.inl ⟨by rfl, ?_⟩) hHeld ?_
      rotate_left
      · intro w hSw; go_simp; try (with_reducible rfl)
      simp only [Act.put, List.setIfInBounds_toArray, List.set_cons_zero, List.set_cons_succ]
      refine AtE.take (i := 25) (v := ?_) rfl (by kernel_rfl) (by kernel_rfl) (by kernel_rfl) (fun _ _ _ h => h) (by decide) (Or.inl ⟨by rfl, ?_⟩) hHeld ?_
      rotate_left
      · intro w hSw; go_simp; try (with_reducible rfl)
      simp only [Act.put, List.setIfInBounds_toArray, List.set_cons_zero, List.set_cons_succ]
      refine AtE.take (i := 29) (v := ?_) rfl (by kernel_rfl) (by kernel_rfl) (by kernel_rfl) (fun _ _ _ h => h) (by decide) (Or.inl ⟨by rfl, ?_⟩) hHeld ?_
      rotate_left
      · intro w hSw; go_simp; try (with_reducible rfl)
      simp only [Act.put, List.setIfInBounds_toArray, List.set_cons_zero, List.set_cons_succ]
      refine AtE.one (i := 26) rfl (by kernel_rfl) (fun K hK => ?_)
      go_simp
      refine (involved_no (HP.out _ (ext_trans HQ0.out HQ10.out)) _ _).mono ?_
      rintro e v26 ⟨rfl, hdr⟩
      have hq26 : Below w3.heap.size w3 v26 := ext_trans HQ10.out hdr
      refine hK.out _ _ (fun _ => ⟨(hq26.cell (p := ⟨w2.heap.size, 2, none⟩) xl).trans x2, (hq26.cell (p := ⟨w2.heap.size, 3, none⟩) xl).trans x3⟩) (fun hHeld' => ?_)
      have hHeld := hHeld' (by decide)
      clear hK K hHeld' hdr
      have HQ26 := Lib.hid hq26
      clear hq26
      refine AtE.take (i := 27) (v := ?_) rfl (by kernel_rfl) (by kernel_rfl) (by kernel_rfl) (fun _ _ _ h => h) (by decide) (Or.inl ⟨by rfl, ?_⟩) hHeld ?_
      rotate_left
      · intro w hSw; go_simp; try (with_reducible rfl)
      simp only [Act.put, List.setIfInBounds_toArray, List.set_cons_zero, List.set_cons_succ]
      refine AtE.take (i := 28) (v := ?_) rfl (by kernel_rfl) (by kernel_rfl) (by kernel_rfl) (fun _ _ _ h => h) (by decide) (Or.inl ⟨by rfl, ?_⟩) hHeld ?_
      rotate_left
      · intro w hSw; go_simp; try (with_reducible rfl)
      simp only [Act.put, List.setIfInBounds_toArray, List.set_cons_zero, List.set_cons_succ]
      refine AtE.one (i := 30) rfl (by kernel_rfl) (fun K hK => ?_)
      go_simp
      refine (pairs_no (HP.out _ (ext_trans HQ0.out HQ26.out))).mono ?_
      rintro e v30 ⟨rfl, hdr⟩
      have hq30 : Below w3.heap.size w3 v30 := ext_trans HQ26.out hdr
      refine hK.out _ _ (fun _ => ⟨(hq30.cell (p := ⟨w2.heap.size, 2, none⟩) xl).trans x2, (hq30.cell (p := ⟨w2.heap.size, 3, none⟩) xl).trans x3⟩) (fun hHeld' => ?_)
      have hHeld := hHeld' (by decide)
      clear hK K hHeld' hdr
      have HQ30 := Lib.hid hq30
      clear hq30
      refine AtE.take (i := 31) (v := ?_) rfl (by kernel_rfl) (by kernel_rfl) (by kernel_rfl) (fun _ _ _ h => h) (by decide) (Or.inl ⟨by rfl, ?_⟩) hHeld ?_
      rotate_left
      · intro w hSw; go_simp; try (with_reducible rfl)
      simp only [Act.put, List.setIfInBounds_toArray, List.set_cons_zero, List.set_cons_succ]
      refine AtE.take (i := 32) (v := ?_) rfl (by kernel_rfl) (by kernel_rfl) (by kernel_rfl) (fun _ _ _ h => h) (by decide) (Or.inl ⟨by rfl, ?_⟩) hHeld ?_
      rotate_left
      · intro w hSw; go_simp; try (with_reducible rfl)
      simp only [Act.put, List.setIfInBounds_toArray, List.set_cons_zero, List.set_cons_succ]
      refine AtE.take (i := 33) (v := ?_) rfl (by kernel_rfl) (by kernel_rfl) (by kernel_rfl) (fun _ _ _ h => h) (by decide) (Or.inl ⟨by rfl, ?_⟩) hHeld ?_
      rotate_left
      · intro w hSw; go_simp; try (with_reducible rfl)
      simp only [Act.put, List.setIfInBounds_toArray, List.set_cons_zero, List.set_cons_succ]
      refine AtE.take (i := 34) (v := ?_) rfl (by kernel_rfl) (by kernel_rfl) (by kernel_rfl) (fun _ _ _ h => h) (by decide) (Or.inl ⟨by rfl, ?_⟩) hHeld ?_
      rotate_left
      · intro w hSw; go_simp; try (with_reducible rfl)
      simp only [Act.put, List.setIfInBounds_toArray, List.set_cons_zero, List.set_cons_succ]
      refine AtE.take (i := 35) (v := ?_) rfl (by kernel_rfl) (by kernel_rfl) (by kernel_rfl) (fun _ _ _ h => h) (by decide) (Or.inl ⟨by rfl, ?_⟩) hHeld ?_
      rotate_left
      · intro w hSw; go_simp; try (with_reducible rfl)
      simp only [Act.put, List.setIfInBounds_toArray, List.set_cons_zero, List.set_cons_succ]
      refine AtE.take (i := 36) (v := ?_) rfl (by kernel_rfl) (by kernel_rfl) (by kernel_rfl) (fun _ _ _ h => h) (by decide) (Or.inl ⟨by rfl, ?_⟩) hHeld ?_
      rotate_left
      · intro w hSw; go_simp; try (with_reducible rfl)
      simp only [Act.put, List.setIfInBounds_toArray, List.set_cons_zero, List.set_cons_succ]
      refine AtE.one (i := 37) rfl (by kernel_rfl) (fun K hK => ?_)
      go_simp
      refine (free_no (HP.out _ (ext_trans HQ0.out HQ30.out)) _ _).mono ?_
      rintro e v37 ⟨rfl, hdr⟩
      have hq37 : Below w3.heap.size w3 v37 := ext_trans HQ30.out hdr
      refine hK.out _ _ (fun _ => ⟨(hq37.cell (p := ⟨w2.heap.size, 2, none⟩) xl).trans x2, (hq37.cell (p := ⟨w2.heap.size, 3, none⟩) xl).trans x3⟩) (fun hHeld' => ?_)
      have hHeld := hHeld' (by decide)
      clear hK K hHeld' hdr
      have HQ37 := Lib.hid hq37
      clear hq37
      refine AtE.take (i := 38) (v := ?_) rfl (by kernel_rfl) (by kernel_rfl) (by kernel_rfl) (fun _ _ _ h => h) (by decide) (Or.inl ⟨by rfl, ?_⟩) hHeld ?_
      rotate_left
      · intro w hSw; go_simp; try (with_reducible rfl)
      simp only [Act.put, List.setIfInBounds_toArray, List.set_cons_zero, List.set_cons_succ]
      refine AtE.take (i := 39) (v := ?_) rfl (by kernel_rfl) (by kernel_rfl) (by kernel_rfl) (fun _ _ _ h => h) (by decide) (Or.inl ⟨by rfl, ?_⟩) hHeld ?_
      rotate_left
      · intro w hSw; go_simp; try (with_reducible rfl)
      simp only [Act.put, List.setIfInBounds_toArray, List.set_cons_zero, List.set_cons_succ]
      refine AtE.take (i := 40) (v := ?_) rfl (by kernel_rfl) (by kernel_rfl) (by kernel_rfl) (fun _ _ _ h => h) (by decide) (Or.inl ⟨by rfl, ?_⟩) hHeld ?_
      rotate_left
      · intro w hSw; go_simp; try (with_reducible rfl)
      simp only [Act.put, List.setIfInBounds_toArray, List.set_cons_zero, List.set_cons_succ]
      refine AtE.one (i := 41) rfl (by kernel_rfl) (fun K hK => ?_)
      go_simp
      refine (tainted_no (HP.out _ (ext_trans HQ0.out HQ37.out))).mono ?_
      rintro e v41 ⟨rfl, hdr⟩
      have hq41 : Below w3.heap.size w3 v41 := ext_trans HQ37.out hdr
      refine hK.out _ _ (fun _ => ⟨(hq41.cell (p := ⟨w2.heap.size, 2, none⟩) xl).trans x2, (hq41.cell (p := ⟨w2.heap.size, 3, none⟩) xl).trans x3⟩) (fun hHeld' => ?_)
      have hHeld := hHeld' (by decide)
      clear hK K hHeld' hdr
      have HQ41 := Lib.hid hq41
      clear hq41
      refine AtE.take (i := 42) (v := ?_) rfl (by kernel_rfl) (by kernel_rfl) (by kernel_rfl) (fun _ _ _ h => h) (by decide) (Or.inl ⟨by rfl, ?_⟩) hHeld ?_
      rotate_left
      · intro w hSw; go_simp; try (with_reducible rfl)
      simp only [Act.put, List.setIfInBounds_toArray, List.set_cons_zero, List.set_cons_succ]
      refine AtE.take (i := 43) (v := ?_) rfl (by kernel_rfl) (by kernel_rfl) (by kernel_rfl) (fun _ _ _ h => h) (by decide) (Or.inl ⟨by rfl, ?_⟩) hHeld ?_
      rotate_left
      · intro w hSw; go_simp; try (with_reducible rfl)
      simp only [Act.put, List.setIfInBounds_toArray, List.set_cons_zero, List.set_cons_succ]
      refine AtE.take (i := 44) (v := ?_) rfl (by kernel_rfl) (by kernel_rfl) (by kernel_rfl) (fun _ _ _ h => h) (by decide) (Or.inl ⟨by rfl, ?_⟩) hHeld ?_
      rotate_left
      · intro w hSw; go_simp; try (with_reducible rfl)
      simp only [Act.put, List.setIfInBounds_toArray, List.set_cons_zero, List.set_cons_succ]
      refine AtE.one (i := 45) rfl (by kernel_rfl) (fun K hK => ?_)
      go_simp
      refine (copy_no (HP.out _ (ext_trans HQ0.out HQ41.out))).mono ?_
      rintro e v45 ⟨rfl, hdr⟩
      have hq45 : Below w3.heap.size w3 v45 := ext_trans HQ41.out hdr
      refine hK.out _ _ (fun _ => ⟨(hq45.cell (p := ⟨w2.heap.size, 2, none⟩) xl).trans x2, (hq45.cell (p := ⟨w2.heap.size, 3, none⟩) xl).trans x3⟩) (fun hHeld' => ?_)
      have hHeld := hHeld' (by decide)
      clear hK K hHeld' hdr
      have HQ45 := Lib.hid hq45
      clear hq45
      refine AtE.take (i := 46) (v := ?_) rfl (by kernel_rfl) (by kernel_rfl) (by kernel_rfl) (fun _ _ _ h => h) (by decide) (Or.inl ⟨by rfl, ?_⟩) hHeld ?_
      rotate_left
      · intro w hSw; go_simp; try (with_reducible rfl)
      simp only [Act.put, List.setIfInBounds_toArray, List.set_cons_zero, List.set_cons_succ]
      refine AtE.one (i := 47) rfl (by kernel_rfl) (fun K hK => ?_)
      go_simp
      refine hK.out _ _ (fun h => absurd rfl h) (fun _ => ?_)
      clear hK K
      refine AtE.done (by kernel_rfl) ?_
      go_wp2
      go_roundw
      case rel => exact ⟨k + 1, by omega, by go_num, ext_trans HBR.out (ext_trans HQ0.out HQ45.out)⟩
      case measure => simp [intOf]; omega
    · obtain rfl : k = 2 := by omega
      go_wp2
      go_ret
      exact ⟨rfl, ext_trans H1.out.1 hbr⟩
end Go.Proofs.Ytjmidomcgaijjaa
