/- The document's stack: a rule touches a place. -/
import Derived.Test.YtjmidomcgaijjaaRefA
import Derived.Test.YtjmidomcgaijjaaHeld

namespace Go.Proofs.Ytjmidomcgaijjaa
set_option linter.unusedVariables false
set_option linter.unusedSimpArgs false
open Go.RowKit

theorem touchF_one (pl r : Int) (f : Fr) (h : (f.place == pl) = true) : touchF pl [r] f = { f with touched := ins r f.touched } := by simp [touchF, h, insAll]
theorem touchF_no (pl : Int) (l : List Int) (f : Fr) (h : (f.place == pl) = false) : touchF pl l f = f := by simp [touchF, h]
theorem RowI.drew {w : World} {v : Value} {l : List Int} (h : RowI w v l) : RowI w.drew v l := ⟨h.1.drew, h.2⟩
/-- a cell of an activation turned to a row that is of the old ones or new -/
theorem RefC.set_step {w w1 : World} {q : Nat} {v u : Value} {cs : List FrR} (h : RefC w q v cs) (hb : Below w.heap.size w w1) {g cap n k j : Nat} (hv : v = .slice (some ⟨g, 0, none⟩) n cap) (hk : k < cs.length) (hj : j < 5) {c : FrR} (hc : c.cells = (cs[k]).cells.set j u)
    (hr : RowI w1 c.tv c.f.touched ∧ RowI w1 c.iv c.f.involved) (hn : ∀ m, c.tv.ownBlock = some m ∨ c.iv.ownBlock = some m → RFoot q v cs m ∨ w.heap.size ≤ m) :
    RefC (w1.setCell ⟨g, k * 5 + j, none⟩ u) q v (cs.set k c) ∧ Step (RFoot q v cs) (RFoot q v (cs.set k c)) w (w1.setCell ⟨g, k * 5 + j, none⟩ u) := by
  refine ⟨(h.ext hb).set hv hk hj hc hr, (Upd.of_ext hb).setCell (p := ⟨g, k * 5 + j, none⟩) (fun _ => .inr (.inl (by rw [hv]; rfl))) u, fun m hm => ?_⟩
  rcases hm with rfl | hm | ⟨d, hd, hm⟩
  · exact .inl (.inl rfl)
  · exact .inl (.inr (.inl hm))
  · obtain ⟨i, hi, rfl⟩ := List.getElem_of_mem hd
    rw [List.length_set] at hi
    by_cases hik : i = k
    · subst hik
      rw [List.getElem_set_self] at hm
      exact hn m hm
    · rw [List.getElem_set_ne (Ne.symm hik)] at hm
      exact .inl (.inr (.inr ⟨_, List.getElem_mem hi, hm⟩))

set_option maxRecDepth 100000 in
set_option maxHeartbeats 1600000 in
theorem touchR_any (q : Nat) (v : Value) (cs : List FrR) (r pl : Int) (w : World) (h : RefC w q v cs) (hn : ∀ c ∈ cs, c.f.touched.length ≤ 900000) :
    Calls Try.prog 50 #[.pointer (some ⟨q, 0, none⟩), .int .i64 r, .int .i64 pl] w fun e w' => e = .returned (.tuple #[]) ∧ ∃ cs', RefC w' q v cs' ∧ frR cs' = (frR cs).map (touchF pl [r]) ∧ Step (RFoot q v cs) (RFoot q v cs') w w' := by
  have HH := Lib.hid (And.intro h hn)
  obtain ⟨A, c, rfl, hc, hm, _, _⟩ := h.form
  unfold maxLen at hm
  clear h hn
  go_enter Try.func50, Try.ntmps50
  go_wp2
  go_loopw [6] (fun i wr => ∃ k : Nat, k ≤ cs.length ∧ i = .int .i64 k ∧ ∃ cs', cs'.length = cs.length ∧ frR cs' = mapTo (touchF pl [r]) k (frR cs) ∧ RefC wr q (.slice A cs.length c) cs' ∧ Step (RFoot q (.slice A cs.length c) cs) (RFoot q (.slice A cs.length c) cs') w wr) (fun i _ => cs.length - (intOf i).toNat)
  case atStart => exact ⟨0, Nat.zero_le _, rfl, cs, rfl, by rw [mapTo_zero], HH.out.1, Step.refl _ _⟩
  case round =>
    obtain ⟨k, hk, rfl, cs', hlen, hfr, hc', hst⟩ := hrel
    have c0 := hc'.c0
    have hp := hc'.blk.lt
    have HC := Lib.hid (And.intro hc' (And.intro hst (And.intro hlen hfr)))
    by_cases hlt : k < cs.length
    · obtain ⟨A', c1, e, _, _, _, hcells⟩ := hc'.form
      rw [hlen] at e
      injection e with e1 _ e2
      subst e1 e2
      obtain ⟨g, rfl, hg, hfz, hcell⟩ := hcells (by omega)
      have hk' : k < cs'.length := by omega
      obtain ⟨g0, g1, g2, g3, g4⟩ := hcell k hk'
      have hget : cs'[k].f = cs[k].f := by
        have h1 : (frR cs')[k]'(by rw [frR_length]; exact hk') = cs'[k].f := by simp [frR]
        have h2 : (mapTo (touchF pl [r]) k (frR cs))[k]'(by rw [mapTo_length, frR_length]; exact hlt) = (frR cs)[k]'(by rw [frR_length]; exact hlt) := mapTo_at _ _ _ _
        have h3 : (frR cs)[k]'(by rw [frR_length]; exact hlt) = cs[k].f := by simp [frR]
        rw [← h1, ← h3, ← h2]
        simp only [hfr]
      have hsucc := mapTo_succ (touchF pl [r]) k (frR cs) (by rw [frR_length]; exact hlt)
      have hg3 : (frR cs)[k]'(by rw [frR_length]; exact hlt) = cs[k].f := by simp [frR]
      rw [hg3, ← hget, ← hfr] at hsucc
      have HSU := Lib.hid hsucc
      have hrows := hc'.rows _ (List.getElem_mem hk')
      have hbd : cs'[k].f.touched.length ≤ 900000 := by rw [hget]; exact HH.out.2 _ (List.getElem_mem hlt)
      have HADD := Lib.hid (add_any cs'[k].f.touched cs'[k].tv r wr.drew hrows.1.drew (by omega))
      have HROW := Lib.hid hrows
      have hkl : (k : Int) < (cs.length : Int) := by omega
      have hfz2 : wr.frozen? ⟨g, k * 5 + 2, none⟩ = false := by
        obtain ⟨cur, hb⟩ := own_blk hc'.row (k := g) rfl
        exact hb.frozen _
      clear hcells hcell hget hsucc hg3 hrows hbd hc' hst hlen hfr hfz
      by_cases hpl : (cs'[k].f.place == pl) = true
      · have HP := Lib.hid hpl
        have hpl2 := hpl
        generalize hx : cs'[k] = x at *
        have HX := Lib.hid hx
        clear hx
        go_wp2
        refine AtE.start (S := fun w' => w'.cell? ⟨q, 0, none⟩ = some (.slice (some ⟨g, 0, none⟩) cs.length c) ∧ w'.cell? ⟨g, k * 5 + 2, none⟩ = some x.tv) 17 (by kernel_rfl) (by kernel_rfl) (by exact ⟨by simpa using c0, by simpa using g2⟩) (fun hHeld => ?_)
        refine AtE.take (i := 0) (v := ?_) rfl (by kernel_rfl) (by kernel_rfl) (by kernel_rfl) (fun _ _ _ h => h) (by decide) (Or.inl ⟨by rfl, ?_⟩) hHeld ?_
        rotate_left
        · intro w hSw; go_simp; try (with_reducible rfl)
        simp only [Act.put, List.setIfInBounds_toArray, List.set_cons_zero, List.set_cons_succ]
        refine AtE.take (i := 1) (v := ?_) rfl (by kernel_rfl) (by kernel_rfl) (by kernel_rfl) (fun _ _ _ h => h) (by decide) (Or.inl ⟨by rfl, ?_⟩) hHeld ?_
        rotate_left
        · intro w hSw; go_simp; try (with_reducible rfl)
        simp only [Act.put, List.setIfInBounds_toArray, List.set_cons_zero, List.set_cons_succ]
        refine AtE.take (i := 2) (v := ?_) rfl (by kernel_rfl) (by kernel_rfl) (by kernel_rfl) (fun _ _ _ h => h) (by decide) (Or.inl ⟨by rfl, ?_⟩) hHeld ?_
        rotate_left
        · intro w hSw; go_simp; try (with_reducible rfl)
        simp only [Act.put, List.setIfInBounds_toArray, List.set_cons_zero, List.set_cons_succ]
        refine AtE.take (i := 3) (v := ?_) rfl (by kernel_rfl) (by kernel_rfl) (by kernel_rfl) (fun _ _ _ h => h) (by decide) (Or.inl ⟨by rfl, ?_⟩) hHeld ?_
        rotate_left
        · intro w hSw; go_simp; try (with_reducible rfl)
        simp only [Act.put, List.setIfInBounds_toArray, List.set_cons_zero, List.set_cons_succ]
        refine AtE.take (i := 4) (v := ?_) rfl (by kernel_rfl) (by kernel_rfl) (by kernel_rfl) (fun _ _ _ h => h) (by decide) (Or.inl ⟨by rfl, ?_⟩) hHeld ?_
        rotate_left
        · intro w hSw; go_simp; try (with_reducible rfl)
        simp only [Act.put, List.setIfInBounds_toArray, List.set_cons_zero, List.set_cons_succ]
        refine AtE.take (i := 5) (v := ?_) rfl (by kernel_rfl) (by kernel_rfl) (by kernel_rfl) (fun _ _ _ h => h) (by decide) (Or.inl ⟨by rfl, ?_⟩) hHeld ?_
        rotate_left
        · intro w hSw; go_simp; try (with_reducible rfl)
        simp only [Act.put, List.setIfInBounds_toArray, List.set_cons_zero, List.set_cons_succ]
        refine AtE.take (i := 6) (v := ?_) rfl (by kernel_rfl) (by kernel_rfl) (by kernel_rfl) (fun _ _ _ h => h) (by decide) (Or.inl ⟨by rfl, ?_⟩) hHeld ?_
        rotate_left
        · intro w hSw; go_simp; try (with_reducible rfl)
        simp only [Act.put, List.setIfInBounds_toArray, List.set_cons_zero, List.set_cons_succ]
        refine AtE.take (i := 7) (v := ?_) rfl (by kernel_rfl) (by kernel_rfl) (by kernel_rfl) (fun _ _ _ h => h) (by decide) (Or.inl ⟨by rfl, ?_⟩) hHeld ?_
        rotate_left
        · intro w hSw; go_simp; try (with_reducible rfl)
        simp only [Act.put, List.setIfInBounds_toArray, List.set_cons_zero, List.set_cons_succ]
        refine AtE.take (i := 8) (v := ?_) rfl (by kernel_rfl) (by kernel_rfl) (by kernel_rfl) (fun _ _ _ h => h) (by decide) (Or.inl ⟨by rfl, ?_⟩) hHeld ?_
        rotate_left
        · intro w hSw; go_simp; try (with_reducible rfl)
        simp only [Act.put, List.setIfInBounds_toArray, List.set_cons_zero, List.set_cons_succ]
        refine AtE.take (i := 9) (v := ?_) rfl (by kernel_rfl) (by kernel_rfl) (by kernel_rfl) (fun _ _ _ h => h) (by decide) (Or.inl ⟨by rfl, ?_⟩) hHeld ?_
        rotate_left
        · intro w hSw; go_simp; try (with_reducible rfl)
        simp only [Act.put, List.setIfInBounds_toArray, List.set_cons_zero, List.set_cons_succ]
        refine AtE.take (i := 10) (v := ?_) rfl (by kernel_rfl) (by kernel_rfl) (by kernel_rfl) (fun _ _ _ h => h) (by decide) (Or.inl ⟨by rfl, ?_⟩) hHeld ?_
        rotate_left
        · intro w hSw; go_simp; try (with_reducible rfl)
        simp only [Act.put, List.setIfInBounds_toArray, List.set_cons_zero, List.set_cons_succ]
        refine AtE.take (i := 11) (v := ?_) rfl (by kernel_rfl) (by kernel_rfl) (by kernel_rfl) (fun _ _ _ h => h) (by decide) (Or.inl ⟨by rfl, ?_⟩) hHeld ?_
        rotate_left
        · intro w hSw; go_simp; try (with_reducible rfl)
        simp only [Act.put, List.setIfInBounds_toArray, List.set_cons_zero, List.set_cons_succ]
        refine AtE.take (i := 12) (v := ?_) rfl (by kernel_rfl) (by kernel_rfl) (by kernel_rfl) (fun _ _ _ h => h) (by decide) (Or.inl ⟨by rfl, ?_⟩) hHeld ?_
        rotate_left
        · intro w hSw; go_simp; try (with_reducible rfl)
        simp only [Act.put, List.setIfInBounds_toArray, List.set_cons_zero, List.set_cons_succ]
        refine AtE.take (i := 13) (v := ?_) rfl (by kernel_rfl) (by kernel_rfl) (by kernel_rfl) (fun _ _ _ h => h) (by decide) (Or.inl ⟨by rfl, ?_⟩) hHeld ?_
        rotate_left
        · intro w hSw; go_simp; try (with_reducible rfl)
        simp only [Act.put, List.setIfInBounds_toArray, List.set_cons_zero, List.set_cons_succ]
        refine AtE.one (i := 14) rfl (by kernel_rfl) (fun K hK => ?_)
        go_simp
        refine HADD.out.mono ?_
        rintro e w1 ⟨u, rfl, hu1, hb1, hu2⟩
        obtain ⟨Au, cu, rfl⟩ := ownsRow_form hu1.1
        have hb2 : Below wr.heap.size wr w1 := ext_trans (ext_refl wr).drew hb1
        have a0 := (hb2.cell (p := ⟨q, 0, none⟩) hp).trans c0
        have a2 := (hb2.cell (p := ⟨g, k * 5 + 2, none⟩) hg).trans g2
        have af := (World.frozen?_of_block (hb2.block g hg)).trans hfz2
        have HU := Lib.hid (And.intro hu1 (And.intro hb2 hu2))
        refine hK.out _ _ (fun _ => ⟨a0, a2⟩) (fun hHeld' => ?_)
        have hHeld := hHeld' (by decide)
        clear hK K hHeld' hu1 hb1 hu2 hb2
        refine AtE.take (i := 15) (v := ?_) rfl (by kernel_rfl) (by kernel_rfl) (by kernel_rfl) (fun _ _ _ h => h) (by decide) (Or.inl ⟨by rfl, ?_⟩) hHeld ?_
        rotate_left
        · intro w hSw; go_simp; try (with_reducible rfl)
        simp only [Act.put, List.setIfInBounds_toArray, List.set_cons_zero, List.set_cons_succ]
        refine AtE.take (i := 16) (v := ?_) rfl (by kernel_rfl) (by kernel_rfl) (by kernel_rfl) (fun _ _ _ h => h) (by decide) (Or.inl ⟨by rfl, ?_⟩) hHeld ?_
        rotate_left
        · intro w hSw; go_simp; try (with_reducible rfl)
        simp only [Act.put, List.setIfInBounds_toArray, List.set_cons_zero, List.set_cons_succ]
        refine AtE.one (i := 17) rfl (by kernel_rfl) (fun K hK => ?_)
        go_simp
        refine hK.out _ _ (fun h => absurd rfl h) (fun _ => ?_)
        clear hK K
        refine AtE.done (by kernel_rfl) ?_
        go_wp2
        go_roundw
        case rel =>
          have hst1 := HC.out.1.set_step (w1 := w1) (c := ⟨{ x.f with touched := ins r x.f.touched }, .slice Au (ins r x.f.touched).length cu, x.iv⟩) HU.out.2.1 rfl hk' (show 2 < 5 by omega) (by rw [HX.out]; rfl) ⟨HU.out.1, HROW.out.2.keep (S := fun _ => False) (Upd.of_ext HU.out.2.1) (fun _ _ h => h)⟩ (fun m hm => by
            rcases hm with hm | hm
            · rcases HU.out.2.2 m hm with h | h
              · exact .inl (.inr (.inr ⟨_, List.getElem_mem hk', .inl (by rw [HX.out]; exact h)⟩))
              · exact .inr h
            · exact .inl (.inr (.inr ⟨_, List.getElem_mem hk', .inr (by rw [HX.out]; exact hm)⟩)))
          refine ⟨k + 1, by omega, by go_num, _, ?_, ?_, hst1.1, HC.out.2.1.trans hst1.2⟩
          · rw [List.length_set]; exact HC.out.2.2.1
          · rw [HSU.out, touchF_one _ _ _ HP.out]
            simp [frR, List.map_set]
        case measure => simp [intOf]; omega
      · have hpl' : (cs'[k].f.place == pl) = false := by simpa using hpl
        have HP := Lib.hid hpl'
        generalize hx : cs'[k] = x at *
        have HX := Lib.hid hx
        clear hx hpl
        go_wp2
        go_roundw
        case rel =>
          refine ⟨k + 1, by omega, by go_num, _, HC.out.2.2.1, ?_, HC.out.1, HC.out.2.1⟩
          rw [HSU.out, touchF_no _ _ _ HP.out, ← HX.out]
          have : cs'[k].f = (frR cs')[k]'(by rw [frR_length]; exact hk') := by simp [frR]
          rw [this, List.set_getElem_self]
        case measure => simp [intOf]; omega
    · obtain rfl : k = cs.length := by omega
      go_wp2
      go_end0
      refine ⟨rfl, cs', HC.out.1, ?_, HC.out.2.1⟩
      rw [HC.out.2.2.2, ← frR_length cs, mapTo_all]
end Go.Proofs.Ytjmidomcgaijjaa
