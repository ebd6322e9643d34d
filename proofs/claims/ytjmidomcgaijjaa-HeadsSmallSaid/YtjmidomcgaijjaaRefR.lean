/- The document's stack: reading. -/
import Derived.Test.YtjmidomcgaijjaaRefW
namespace Go.Proofs.Ytjmidomcgaijjaa
set_option linter.unusedVariables false
set_option linter.unusedSimpArgs false
open Go.RowKit

def rdF (l : List Fr) (k m : Nat) : List Fr := l.mapIdx (readAt k (rulesOf l) m)
theorem rdF_length (l : List Fr) (k m : Nat) : (rdF l k m).length = l.length := by simp [rdF]
theorem rdF_at (l : List Fr) (k m j : Nat) (h : j < l.length) : (rdF l k m)[j]'(by rw [rdF_length]; exact h) = readAt k (rulesOf l) m j l[j] := by simp [rdF]
theorem rdF_zero (l : List Fr) (k : Nat) : rdF l k (k + 1) = l := by
  apply List.ext_getElem (rdF_length l k _)
  intro j h1 h2
  rw [rdF_at l k _ j h2]
  unfold readAt
  split
  · simp [insAll]
  · rw [if_neg (by omega)]
theorem rdF_succ (l : List Fr) (k m : Nat) (hk : k < m) (hm : m < l.length) :
    rdF l k (m + 1) = ((rdF l k m).set m (taint l[m])).set k { (readAt k (rulesOf l) m k (l[k]'(by omega))) with involved := ins l[m].rule (readAt k (rulesOf l) m k (l[k]'(by omega))).involved } := by
  apply List.ext_getElem
  · simp [rdF_length]
  intro j h1 h2
  rw [rdF_length] at h1
  rw [rdF_at l k _ j h1]
  by_cases hjk : j = k
  · subst hjk
    rw [List.getElem_set_self]
    unfold readAt
    rw [if_pos rfl, if_pos rfl]
    have e : ((rulesOf l).drop (j + 1)).take (m + 1 - (j + 1)) = ((rulesOf l).drop (j + 1)).take (m - (j + 1)) ++ [l[m].rule] := by
      rw [show m + 1 - (j + 1) = (m - (j + 1)) + 1 by omega, List.take_succ_eq_append_getElem (by simp [rulesOf]; omega)]
      have hidx : j + 1 + (m - (j + 1)) = m := by omega
      simp [rulesOf, hidx]
    simp only [e]
    simp [insAll]
  · rw [List.getElem_set_ne (Ne.symm hjk)]
    by_cases hjm : j = m
    · subst hjm
      rw [List.getElem_set_self]
      unfold readAt
      rw [if_neg hjk, if_pos ⟨hk, by omega⟩]
    · rw [List.getElem_set_ne (Ne.symm hjm), rdF_at l k m j h1]
      unfold readAt
      rw [if_neg hjk, if_neg hjk]
      by_cases h : k < j ∧ j < m
      · rw [if_pos h, if_pos ⟨h.1, by omega⟩]
      · rw [if_neg h, if_neg (fun h' => h ⟨h'.1, by omega⟩)]
theorem readAt_low (k m : Nat) (rules : List Int) (f : Fr) (hk : k < m) : readAt k rules m m f = f := by
  unfold readAt
  rw [if_neg (by omega), if_neg (by omega)]
theorem readAt_len (k m j : Nat) (rules : List Int) (f : Fr) : (readAt k rules m j f).involved.length ≤ f.involved.length + rules.length ∧ (readAt k rules m j f).touched = f.touched := by
  unfold readAt
  split
  · refine ⟨?_, rfl⟩
    show (insAll _ f.involved).length ≤ _
    have := length_insAll ((rules.drop (k + 1)).take (m - (k + 1))) f.involved
    have h2 : ((rules.drop (k + 1)).take (m - (k + 1))).length ≤ rules.length := by simp; omega
    omega
  · split
    · exact ⟨by show f.involved.length ≤ _; omega, rfl⟩
    · exact ⟨by omega, rfl⟩
theorem frR_at (cs : List FrR) (k : Nat) (h : k < cs.length) : (frR cs)[k]'(by rw [frR_length]; exact h) = cs[k].f := by simp [frR]
theorem frR_set (cs : List FrR) (k : Nat) (c : FrR) : frR (cs.set k c) = (frR cs).set k c.f := by simp [frR, List.map_set]

set_option maxRecDepth 100000 in
set_option maxHeartbeats 1600000 in
theorem readR_any (q : Nat) (v : Value) (cs : List FrR) (r pl : Int) (w : World) (h : RefC w q v cs) (hn : cs.length ≤ 100000) (hb : ∀ c ∈ cs, c.f.touched.length ≤ 900000 ∧ c.f.involved.length ≤ 800000) :
    Calls Try.prog 24 #[.pointer (some ⟨q, 0, none⟩), .int .i64 r, .int .i64 pl] w fun e w' => e = .returned (.int .i64 (readB (frR cs) r pl).1) ∧ ∃ cs', RefC w' q v cs' ∧ frR cs' = (readB (frR cs) r pl).2 ∧ Step (RFoot q v cs) (RFoot q v cs') w w' := by
  have HA := Lib.hid (atR_any q v cs r pl w h)
  have HS := Lib.hid h
  have HB := Lib.hid hb
  cases hst : (frR cs).findIdx? (isPair r pl) with
  | none =>
    have hp : posOf (isPair r pl) (frR cs) = -1 := by unfold posOf; rw [hst]
    have hE : readB (frR cs) r pl = (5, frR cs) := by unfold readB; rw [hst]
    rw [hE]
    rw [hp] at HA
    clear hp hE hst h hb
    go_enter Try.func24, Try.ntmps24
    go_wp2_with (first
      | (go_at_call 48; refine HA.out.mono ?_; rintro e w1 ⟨rfl, rfl⟩))
    go_ret
    exact ⟨rfl, cs, HS.out, rfl, Step.refl _ _⟩
  | some k =>
    have hp : posOf (isPair r pl) (frR cs) = (k : Int) := by unfold posOf; rw [hst]
    obtain ⟨hk, _, _⟩ := List.findIdx?_eq_some_iff_getElem.1 hst
    rw [frR_length] at hk
    have hE : readB (frR cs) r pl = (0, readA (frR cs) k r pl) := by unfold readB; rw [hst]
    rw [hE]
    rw [hp] at HA
    obtain ⟨A, c, rfl, hc, hm, _, _⟩ := h.form
    unfold maxLen at hm
    clear hp hE hst h hb
    go_enter Try.func24, Try.ntmps24
    go_wp2_with (first
      | (go_at_call 48; refine HA.out.mono ?_; rintro e w1 ⟨rfl, rfl⟩))
    go_loopw [8] (fun i wr => ∃ m : Nat, k < m ∧ m ≤ cs.length ∧ i = .int .i64 m ∧ ∃ cs', cs'.length = cs.length ∧ frR cs' = rdF (frR cs) k m ∧ RefC wr q (.slice A cs.length c) cs' ∧ Step (RFoot q (.slice A cs.length c) cs) (RFoot q (.slice A cs.length c) cs') w wr) (fun i _ => cs.length - (intOf i).toNat)
    case atStart => exact ⟨k + 1, by omega, by omega, by go_num, cs, rfl, by rw [rdF_zero], HS.out, Step.refl _ _⟩
    case round =>
      obtain ⟨m, hkm, hmn, rfl, cs', hlen, hfr, hc', hst⟩ := hrel
      have c0 := hc'.c0
      have hp := hc'.blk.lt
      have HC := Lib.hid (And.intro hc' (And.intro hst (And.intro hlen hfr)))
      by_cases hlt : m < cs.length
      · obtain ⟨A', c1, e, -, -, -, hcells⟩ := hc'.form
        rw [hlen] at e
        injection e with e1 _ e2
        subst e1 e2
        obtain ⟨g, rfl, hg, -, hcell⟩ := hcells (by omega)
        have hm' : m < cs'.length := by omega
        have hk' : k < cs'.length := by omega
        obtain ⟨-, -, -, -, g4⟩ := hcell m hm'
        have hfz : wr.frozen? ⟨g, m * 5 + 4, none⟩ = false := by
          obtain ⟨cur, hb⟩ := own_blk hc'.row (k := g) rfl
          exact hb.frozen _
        have hfm : cs'[m].f = (frR cs)[m]'(by rw [frR_length]; exact hlt) := by
          rw [← frR_at cs' m hm']
          have h2 := rdF_at (frR cs) k m m (by rw [frR_length]; exact hlt)
          rw [readAt_low _ _ _ _ hkm] at h2
          rw [← h2]
          simp only [hfr]
        have hfk : cs'[k].f = readAt k (rulesOf (frR cs)) m k ((frR cs)[k]'(by rw [frR_length]; exact hk)) := by
          rw [← frR_at cs' k hk', ← rdF_at (frR cs) k m k (by rw [frR_length]; exact hk)]
          simp only [hfr]
        have hsucc := rdF_succ (frR cs) k m hkm (by rw [frR_length]; exact hlt)
        rw [← hfm, ← hfk, ← hfr] at hsucc
        have hbi : cs'[k].f.involved.length ≤ 900000 := by
          have h1 := (readAt_len k m k (rulesOf (frR cs)) ((frR cs)[k]'(by rw [frR_length]; exact hk))).1
          rw [← hfk] at h1
          have h2 := (HB.out cs[k] (List.getElem_mem hk)).2
          rw [frR_at cs k hk] at h1
          have h3 : (rulesOf (frR cs)).length = cs.length := by simp [rulesOf, frR]
          omega
        have HSU := Lib.hid hsucc
        -- the one above is tainted
        have hs7 := hc'.set_step (w1 := wr) (ext_refl wr) (u := .bool true) rfl hm' (show 4 < 5 by omega) (c := ⟨taint cs'[m].f, cs'[m].tv, cs'[m].iv⟩) rfl (show RowI wr cs'[m].tv cs'[m].f.touched ∧ RowI wr cs'[m].iv cs'[m].f.involved from hc'.rows _ (List.getElem_mem hm')) (fun j hj => by
          rcases hj with hj | hj
          · exact .inl (.inr (.inr ⟨_, List.getElem_mem hm', .inl hj⟩))
          · exact .inl (.inr (.inr ⟨_, List.getElem_mem hm', .inr hj⟩)))
        generalize hcs7 : cs'.set m ⟨taint cs'[m].f, cs'[m].tv, cs'[m].iv⟩ = cs7 at hs7
        have hml : (m : Int) < (cs.length : Int) := by omega
        have hkl : (k : Int) < (cs.length : Int) := by omega
        clear hcells hcell hsucc hst hfr hc'
        go_wp2
        generalize hw7 : wr.setCell ⟨g, m * 5 + 4, none⟩ (.bool true) = w7 at *
        obtain ⟨hc7, hst7⟩ := hs7
        have d0 := hc7.c0
        have dp := hc7.blk.lt
        obtain ⟨A7, c7, e7, -, -, -, hcells7⟩ := hc7.form
        have hlen7 : cs7.length = cs.length := by rw [← hcs7, List.length_set]; exact hlen
        rw [hlen7] at e7
        injection e7 with e1 _ e2
        subst e2
        obtain ⟨g7, eg, hg7, _, hcell7⟩ := hcells7 (by omega)
        rw [← e1] at eg
        injection eg with eg
        injection eg with eg _ _
        subst eg
        obtain ⟨-, -, -, d3, -⟩ := hcell7 k (by omega)
        obtain ⟨d4, -⟩ := hcell7 m (by omega)
        have ek : cs7[k]'(by omega) = cs'[k] := by simp only [← hcs7]; exact List.getElem_set_ne (by omega) _
        have em : cs7[m]'(by omega) = ⟨taint cs'[m].f, cs'[m].tv, cs'[m].iv⟩ := by simp only [← hcs7]; exact List.getElem_set_self _
        rw [ek] at d3
        rw [em] at d4
        have d4 : w7.cell? ⟨g, m * 5, none⟩ = some (.int .i64 cs'[m].f.rule) := d4
        have dfz : w7.frozen? ⟨g, k * 5 + 3, none⟩ = false := by
          obtain ⟨cur, hb⟩ := own_blk hc7.row (k := g) rfl
          exact hb.frozen _
        have hrows := hc7.rows _ (List.getElem_mem (show k < _ by omega))
        rw [ek] at hrows
        have HADD := Lib.hid (add_any cs'[k].f.involved cs'[k].iv cs'[m].f.rule w7.drew hrows.2.drew (by omega))
        have HROW := Lib.hid hrows
        have HC7 := Lib.hid (And.intro hc7 (And.intro hst7 ek))
        have hk7 := Lib.hid (show k < cs7.length by omega)
        have hf7 : frR cs7 = (frR cs').set m (taint cs'[m].f) := by rw [← hcs7, frR_set]
        have HF7 := Lib.hid (And.intro hf7 hlen7)
        clear g4 hfz hcells7 hcell7 ek em hrows hc7 hst7 hw7 e1 hfm hfk hbi c0 hp hf7 hcs7
        generalize hxk : cs'[k] = xk at *
        generalize hxm : cs'[m] = xm at *
        refine AtE.start (S := fun w' => w'.cell? ⟨q, 0, none⟩ = some (.slice (some ⟨g, 0, none⟩) cs.length c) ∧ w'.cell? ⟨g, k * 5 + 3, none⟩ = some xk.iv ∧ w'.cell? ⟨g, m * 5, none⟩ = some (.int .i64 xm.f.rule)) 24 (by kernel_rfl) (by kernel_rfl) (by exact ⟨by simpa using d0, by simpa using d3, by simpa using d4⟩) (fun hHeld => ?_)
        refine AtE.take (i := 0) (v := ?_) rfl (by kernel_rfl) (by kernel_rfl) (by kernel_rfl) (fun _ _ _ h => h) (by decide) (Or.inl ⟨by rfl, ?_⟩) hHeld ?_
        rotate_left
        · intro w hSw; go_simp; try (with_reducible rfl)
        simp only [Act.put, List.setIfInBounds_toArray, List.set_cons_zero, List.set_cons_succ]
        refine AtE.take (i := 1) (v := ?_) rfl (by kernel_rfl) (by kernel_rfl) (by kernel_rfl) (fun _ _ _ h => h) (by decide) (Or.inl ⟨by rfl, ?_⟩) hHeld ?_
        rotate_left
        · intro w hSw; go_simp; try (with_reducible rfl)
        simp only [Act.put, List.setIfInBounds_toArray, List.set_cons_zero, List.set_cons_succ]
        refine AtE.take (i := 2) (v := ?_) rfl (by kernel_rfl) (by kernel_rfl) (by kernel_rfl) (fun _ _ _ h => h) (by decide) (Or.inl ⟨by rfl, ?_⟩) hHeld ?_
        rotate_left
        · intro w hSw; go_simp; try (with_reducible rfl)
        simp only [Act.put, List.setIfInBounds_toArray, List.set_cons_zero, List.set_cons_succ]
        refine AtE.take (i := 3) (v := ?_) rfl (by kernel_rfl) (by kernel_rfl) (by kernel_rfl) (fun _ _ _ h => h) (by decide) (Or.inl ⟨by rfl, ?_⟩) hHeld ?_
        rotate_left
        · intro w hSw; go_simp; try (with_reducible rfl)
        simp only [Act.put, List.setIfInBounds_toArray, List.set_cons_zero, List.set_cons_succ]
        refine AtE.take (i := 4) (v := ?_) rfl (by kernel_rfl) (by kernel_rfl) (by kernel_rfl) (fun _ _ _ h => h) (by decide) (Or.inl ⟨by rfl, ?_⟩) hHeld ?_
        rotate_left
        · intro w hSw; go_simp; try (with_reducible rfl)
        simp only [Act.put, List.setIfInBounds_toArray, List.set_cons_zero, List.set_cons_succ]
        refine AtE.take (i := 5) (v := ?_) rfl (by kernel_rfl) (by kernel_rfl) (by kernel_rfl) (fun _ _ _ h => h) (by decide) (Or.inl ⟨by rfl, ?_⟩) hHeld ?_
        rotate_left
        · intro w hSw; go_simp; try (with_reducible rfl)
        simp only [Act.put, List.setIfInBounds_toArray, List.set_cons_zero, List.set_cons_succ]
        refine AtE.take (i := 6) (v := ?_) rfl (by kernel_rfl) (by kernel_rfl) (by kernel_rfl) (fun _ _ _ h => h) (by decide) (Or.inl ⟨by rfl, ?_⟩) hHeld ?_
        rotate_left
        · intro w hSw; go_simp; try (with_reducible rfl)
        simp only [Act.put, List.setIfInBounds_toArray, List.set_cons_zero, List.set_cons_succ]
        refine AtE.take (i := 7) (v := ?_) rfl (by kernel_rfl) (by kernel_rfl) (by kernel_rfl) (fun _ _ _ h => h) (by decide) (Or.inl ⟨by rfl, ?_⟩) hHeld ?_
        rotate_left
        · intro w hSw; go_simp; try (with_reducible rfl)
        simp only [Act.put, List.setIfInBounds_toArray, List.set_cons_zero, List.set_cons_succ]
        refine AtE.take (i := 8) (v := ?_) rfl (by kernel_rfl) (by kernel_rfl) (by kernel_rfl) (fun _ _ _ h => h) (by decide) (Or.inl ⟨by rfl, ?_⟩) hHeld ?_
        rotate_left
        · intro w hSw; go_simp; try (with_reducible rfl)
        simp only [Act.put, List.setIfInBounds_toArray, List.set_cons_zero, List.set_cons_succ]
        refine AtE.take (i := 9) (v := ?_) rfl (by kernel_rfl) (by kernel_rfl) (by kernel_rfl) (fun _ _ _ h => h) (by decide) (Or.inl ⟨by rfl, ?_⟩) hHeld ?_
        rotate_left
        · intro w hSw; go_simp; try (with_reducible rfl)
        simp only [Act.put, List.setIfInBounds_toArray, List.set_cons_zero, List.set_cons_succ]
        refine AtE.take (i := 10) (v := ?_) rfl (by kernel_rfl) (by kernel_rfl) (by kernel_rfl) (fun _ _ _ h => h) (by decide) (Or.inl ⟨by rfl, ?_⟩) hHeld ?_
        rotate_left
        · intro w hSw; go_simp; try (with_reducible rfl)
        simp only [Act.put, List.setIfInBounds_toArray, List.set_cons_zero, List.set_cons_succ]
        refine AtE.take (i := 11) (v := ?_) rfl (by kernel_rfl) (by kernel_rfl) (by kernel_rfl) (fun _ _ _ h => h) (by decide) (Or.inl ⟨by rfl, ?_⟩) hHeld ?_
        rotate_left
        · intro w hSw; go_simp; try (with_reducible rfl)
        simp only [Act.put, List.setIfInBounds_toArray, List.set_cons_zero, List.set_cons_succ]
        refine AtE.take (i := 12) (v := ?_) rfl (by kernel_rfl) (by kernel_rfl) (by kernel_rfl) (fun _ _ _ h => h) (by decide) (Or.inl ⟨by rfl, ?_⟩) hHeld ?_
        rotate_left
        · intro w hSw; go_simp; try (with_reducible rfl)
        simp only [Act.put, List.setIfInBounds_toArray, List.set_cons_zero, List.set_cons_succ]
        refine AtE.take (i := 13) (v := ?_) rfl (by kernel_rfl) (by kernel_rfl) (by kernel_rfl) (fun _ _ _ h => h) (by decide) (Or.inl ⟨by rfl, ?_⟩) hHeld ?_
        rotate_left
        · intro w hSw; go_simp; try (with_reducible rfl)
        simp only [Act.put, List.setIfInBounds_toArray, List.set_cons_zero, List.set_cons_succ]
        refine AtE.take (i := 14) (v := ?_) rfl (by kernel_rfl) (by kernel_rfl) (by kernel_rfl) (fun _ _ _ h => h) (by decide) (Or.inl ⟨by rfl, ?_⟩) hHeld ?_
        rotate_left
        · intro w hSw; go_simp; try (with_reducible rfl)
        simp only [Act.put, List.setIfInBounds_toArray, List.set_cons_zero, List.set_cons_succ]
        refine AtE.take (i := 15) (v := ?_) rfl (by kernel_rfl) (by kernel_rfl) (by kernel_rfl) (fun _ _ _ h => h) (by decide) (Or.inl ⟨by rfl, ?_⟩) hHeld ?_
        rotate_left
        · intro w hSw; go_simp; try (with_reducible rfl)
        simp only [Act.put, List.setIfInBounds_toArray, List.set_cons_zero, List.set_cons_succ]
        refine AtE.take (i := 16) (v := ?_) rfl (by kernel_rfl) (by kernel_rfl) (by kernel_rfl) (fun _ _ _ h => h) (by decide) (Or.inl ⟨by rfl, ?_⟩) hHeld ?_
        rotate_left
        · intro w hSw; go_simp; try (with_reducible rfl)
        simp only [Act.put, List.setIfInBounds_toArray, List.set_cons_zero, List.set_cons_succ]
        refine AtE.take (i := 17) (v := ?_) rfl (by kernel_rfl) (by kernel_rfl) (by kernel_rfl) (fun _ _ _ h => h) (by decide) (Or.inl ⟨by rfl, ?_⟩) hHeld ?_
        rotate_left
        · intro w hSw; go_simp; try (with_reducible rfl)
        simp only [Act.put, List.setIfInBounds_toArray, List.set_cons_zero, List.set_cons_succ]
        refine AtE.take (i := 18) (v := ?_) rfl (by kernel_rfl) (by kernel_rfl) (by kernel_rfl) (fun _ _ _ h => h) (by decide) (Or.inl ⟨by rfl, ?_⟩) hHeld ?_
        rotate_left
        · intro w hSw; go_simp; try (with_reducible rfl)
        simp only [Act.put, List.setIfInBounds_toArray, List.set_cons_zero, List.set_cons_succ]
        refine AtE.take (i := 19) (v := ?_) rfl (by kernel_rfl) (by kernel_rfl) (by kernel_rfl) (fun _ _ _ h => h) (by decide) (Or.inl ⟨by rfl, ?_⟩) hHeld ?_
        rotate_left
        · intro w hSw; go_simp; try (with_reducible rfl)
        simp only [Act.put, List.setIfInBounds_toArray, List.set_cons_zero, List.set_cons_succ]
        refine AtE.take (i := 20) (v := ?_) rfl (by kernel_rfl) (by kernel_rfl) (by kernel_rfl) (fun _ _ _ h => h) (by decide) (Or.inl ⟨by rfl, ?_⟩) hHeld ?_
        rotate_left
        · intro w hSw; go_simp; try (with_reducible rfl)
        simp only [Act.put, List.setIfInBounds_toArray, List.set_cons_zero, List.set_cons_succ]
        refine AtE.one (i := 21) rfl (by kernel_rfl) (fun K hK => ?_)
        go_simp
        refine HADD.out.mono ?_
        rintro e w8 ⟨u, rfl, hu1, hb1, hu2⟩
        obtain ⟨Au, cu, rfl⟩ := ownsRow_form hu1.1
        have hb2 : Below w7.heap.size w7 w8 := ext_trans (ext_refl w7).drew hb1
        have a0 := (hb2.cell (p := ⟨q, 0, none⟩) dp).trans d0
        have a3 := (hb2.cell (p := ⟨g, k * 5 + 3, none⟩) hg7).trans d3
        have a4 := (hb2.cell (p := ⟨g, m * 5, none⟩) hg7).trans d4
        have af := (World.frozen?_of_block (hb2.block g hg7)).trans dfz
        have HU := Lib.hid (And.intro hu1 (And.intro hb2 hu2))
        refine hK.out _ _ (fun _ => ⟨a0, a3, a4⟩) (fun hHeld' => ?_)
        have hHeld := hHeld' (by decide)
        clear hK K hHeld' hu1 hb1 hu2 hb2
        refine AtE.take (i := 22) (v := ?_) rfl (by kernel_rfl) (by kernel_rfl) (by kernel_rfl) (fun _ _ _ h => h) (by decide) (Or.inl ⟨by rfl, ?_⟩) hHeld ?_
        rotate_left
        · intro w hSw; go_simp; try (with_reducible rfl)
        simp only [Act.put, List.setIfInBounds_toArray, List.set_cons_zero, List.set_cons_succ]
        refine AtE.take (i := 23) (v := ?_) rfl (by kernel_rfl) (by kernel_rfl) (by kernel_rfl) (fun _ _ _ h => h) (by decide) (Or.inl ⟨by rfl, ?_⟩) hHeld ?_
        rotate_left
        · intro w hSw; go_simp; try (with_reducible rfl)
        simp only [Act.put, List.setIfInBounds_toArray, List.set_cons_zero, List.set_cons_succ]
        refine AtE.one (i := 24) rfl (by kernel_rfl) (fun K hK => ?_)
        go_simp
        refine hK.out _ _ (fun h => absurd rfl h) (fun _ => ?_)
        clear hK K
        refine AtE.done (by kernel_rfl) ?_
        go_wp2
        go_roundw
        case rel =>
          have hst1 := HC7.out.1.set_step (w1 := w8) (c := ⟨{ xk.f with involved := ins xm.f.rule xk.f.involved }, xk.tv, .slice Au (ins xm.f.rule xk.f.involved).length cu⟩) HU.out.2.1 rfl hk7.out (show 3 < 5 by omega) (by rw [HC7.out.2.2]; rfl) ⟨HROW.out.1.keep (S := fun _ => False) (Upd.of_ext HU.out.2.1) (fun _ _ h => h), HU.out.1⟩ (fun j hj => by
            rcases hj with hj | hj
            · exact .inl (.inr (.inr ⟨_, List.getElem_mem hk7.out, .inl (by rw [HC7.out.2.2]; exact hj)⟩))
            · rcases HU.out.2.2 j hj with h | h
              · exact .inl (.inr (.inr ⟨_, List.getElem_mem hk7.out, .inr (by rw [HC7.out.2.2]; exact h)⟩))
              · exact .inr h)
          refine ⟨m + 1, by omega, by omega, by go_num, _, ?_, ?_, hst1.1, (HC.out.2.1.trans HC7.out.2.1).trans hst1.2⟩
          · rw [List.length_set]; exact HF7.out.2
          · rw [HSU.out, frR_set, HF7.out.1]
        case measure => simp [intOf]; omega
      · obtain rfl : m = cs.length := by omega
        have hbt : ∀ d ∈ cs', d.f.touched.length ≤ 900000 := by
          intro d hd
          obtain ⟨j, hj, rfl⟩ := List.getElem_of_mem hd
          have hj' : j < cs.length := by omega
          have h1 : cs'[j].f = readAt k (rulesOf (frR cs)) cs.length j ((frR cs)[j]'(by rw [frR_length]; exact hj')) := by
            rw [← frR_at cs' j hj, ← rdF_at (frR cs) k cs.length j (by rw [frR_length]; exact hj')]
            simp only [hfr]
          rw [h1, (readAt_len _ _ _ _ _).2, frR_at cs j hj']
          exact (HB.out _ (List.getElem_mem hj')).1
        have HT := Lib.hid (touchR_any q _ cs' r pl wr hc' hbt)
        clear hbt hc' hst hlen hfr
        go_wp2_with (first
          | (go_at_call 50; refine HT.out.mono ?_; rintro e w4 ⟨rfl, cs4, hc4, hf4, hs4⟩))
        go_ret
        refine ⟨rfl, cs4, hc4, ?_, HC.out.2.1.trans hs4⟩
        rw [hf4, HC.out.2.2.2]
        unfold readA rdF
        rw [frR_length]
end Go.Proofs.Ytjmidomcgaijjaa
