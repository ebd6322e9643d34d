/- The document's store: the live rules at a place. -/
import Derived.Test.YtchmlhceidociaaRdR
namespace Go.Proofs.Ytchmlhceidociaa
set_option linter.unusedVariables false
set_option linter.unusedSimpArgs false
open Go.RowKit

/-- how many at the head are below x -/
def below (x : Int) (l : List Int) : Nat := (l.takeWhile fun y => decide (y < x)).length
theorem below_le (x : Int) (l : List Int) : below x l ≤ l.length := (List.takeWhile_sublist _).length_le
theorem below_lt (x : Int) : ∀ (l : List Int) (j : Nat), j < below x l → ∀ hl : j < l.length, l[j] < x
  | [], j, h, hl => by simp at hl
  | y :: l, j, h, hl => by
    unfold below at h
    rw [List.takeWhile_cons] at h
    split at h
    · rename_i hy
      cases j with
      | zero => simpa using hy
      | succ j => exact below_lt x l j (by simpa [below] using h) (by simpa using hl)
    · simp at h
theorem below_ge (x : Int) : ∀ (l : List Int) (hl : below x l < l.length), x ≤ l[below x l]
  | [], hl => by simp at hl
  | y :: l, hl => by
    by_cases hy : y < x
    · have e : below x (y :: l) = below x l + 1 := by simp [below, List.takeWhile_cons, hy]
      simp only [e] at hl ⊢
      exact below_ge x l (by simpa using hl)
    · have e : below x (y :: l) = 0 := by simp [below, List.takeWhile_cons, hy]
      simp only [e]
      simpa using hy
def insL (x : Int) (l : List Int) : List Int := l.take (below x l) ++ x :: l.drop (below x l)
theorem insL_perm (x : Int) (l : List Int) : (insL x l).Perm (l ++ [x]) := by
  unfold insL
  refine List.perm_middle.trans ?_
  rw [List.take_append_drop]
  exact (List.perm_append_singleton x l).symm
theorem insL_sorted (x : Int) (l : List Int) (h : l.Pairwise (· ≤ ·)) : (insL x l).Pairwise (· ≤ ·) := by
  unfold insL
  have hlt : ∀ y ∈ l.take (below x l), y < x := by
    intro y hy
    obtain ⟨j, hj, rfl⟩ := List.getElem_of_mem hy
    rw [List.getElem_take]
    rw [List.length_take] at hj
    exact below_lt x l j (by omega) (by omega)
  have hge : ∀ y ∈ l.drop (below x l), x ≤ y := by
    intro y hy
    obtain ⟨j, hj, rfl⟩ := List.getElem_of_mem hy
    rw [List.getElem_drop]
    have hjl : below x l + j < l.length := by simp at hj; omega
    have h0 := below_ge x l (by omega)
    rcases Nat.eq_zero_or_pos j with rfl | hp
    · simpa using h0
    · exact Int.le_trans h0 (List.pairwise_iff_getElem.1 h _ _ _ _ (by omega))
  rw [List.pairwise_append, List.pairwise_cons]
  refine ⟨h.sublist (List.take_sublist _ _), ⟨hge, h.sublist (List.drop_sublist _ _)⟩, fun a ha b hb => ?_⟩
  have h1 := hlt a ha
  rcases List.mem_cons.1 hb with rfl | hb
  · omega
  · have := hge b hb; omega
theorem sortL_sorted (l : List Int) : (sortL l).Pairwise (· ≤ ·) := by
  have := List.pairwise_mergeSort (le := fun x y : Int => decide (x ≤ y)) (fun a b c h1 h2 => by simp at *; omega) (fun a b => by simp; omega) l
  exact this.imp (fun h => by simpa using h)
theorem sortL_perm (l : List Int) : (sortL l).Perm l := List.mergeSort_perm _ _
theorem sorted_unique {l m : List Int} (h : l.Perm m) (h1 : l.Pairwise (· ≤ ·)) (h2 : m.Pairwise (· ≤ ·)) : l = m :=
  List.Perm.eq_of_pairwise (le := (· ≤ ·)) (fun a b _ _ h1 h2 => Int.le_antisymm h1 h2) h1 h2 h
theorem sortL_snoc (l : List Int) (x : Int) : sortL (l ++ [x]) = insL x (sortL l) :=
  sorted_unique ((sortL_perm _).trans ((insL_perm x (sortL l)).trans ((sortL_perm l).append_right [x])).symm) (sortL_sorted _) (insL_sorted x _ (sortL_sorted l))
theorem ints_cells (W : World) (v : Value) (n c : Nat) (A : Option Addr) (l : List Int) (h : W.ownsRow 0 3 1 v l.length (l.map (Value.int .i64))) (hv : v = .slice A n c) : ∀ ad, A = some ad → ∀ j, (hj : j < l.length) → W.cell? (ad.add j) = some (.int .i64 l[j]) := by
  rintro ad rfl j hj
  subst hv
  rcases h.2 with ⟨e, h0⟩ | ⟨g, cap, cur, e, _⟩
  · cases e
  · cases e
    exact World.ownsRow.cells h rfl j _ (by simp [hj])

theorem own_none {w : World} {t : TypeId} {sz n m c : Nat} {A : Option Addr} {xs : List Value} (h : w.ownsRow 0 t sz (.slice A m c) n xs) : A = none → m = 0 ∧ c = 0 := by
  rintro rfl
  rcases h.2 with ⟨e, _⟩ | ⟨g, cap, cur, e, _⟩
  · cases e; exact ⟨rfl, rfl⟩
  · cases e
theorem own_some {w : World} {t : TypeId} {sz n m c : Nat} {A : Option Addr} {xs : List Value} (h : w.ownsRow 0 t sz (.slice A m c) n xs) : ∀ ad, A = some ad → ∀ j u, xs[j]? = some u → w.cell? (ad.add j) = some u := by
  rintro ad rfl
  rcases h.2 with ⟨e, _⟩ | ⟨g, cap, cur, e, _⟩
  · cases e
  · cases e; exact World.ownsRow.cells h rfl
set_option maxRecDepth 100000 in
set_option maxHeartbeats 6400000 in
theorem rlive_any (q : Nat) (v : Value) (cs : List PrC) (pl : Int) (w : World) (h : RdC w q v cs) (hn : cs.length ≤ 1000000) :
    Calls Try.prog 34 #[.pointer (some ⟨q, 0, none⟩), .int .i64 pl] w fun e w' => ∃ u, e = .returned u ∧ w'.ownsRow 0 3 1 u (liveL (prs cs) pl).length ((sortL (liveL (prs cs) pl)).map (Value.int .i64)) ∧ Below w.heap.size w w' := by
  have h0 := h.c0
  have hp := h.blk.lt
  obtain ⟨A, c, rfl, hc, hm, -, hcells⟩ := h.form
  unfold maxLen at hm
  obtain ⟨i0, hi, hz0, hz1, hz2⟩ := info_parts (P := Try.prog) (e := 3) (z := .int .i64 0) (size := 1) (bytes := 8) (by kernel_rfl)
  clear h
  go_enter Try.func34, Try.ntmps34
  go_wp2
  go_loopw [5, 6] (fun o i wr => ∃ (k : Nat) (B : Option Addr) (d : Nat), k ≤ cs.length ∧ i = .int .i64 k ∧ o = .slice B (liveL (prs (cs.take k)) pl).length d ∧ wr.ownsRow 0 3 1 (.slice B (liveL (prs (cs.take k)) pl).length d) (liveL (prs (cs.take k)) pl).length ((sortL (liveL (prs (cs.take k)) pl)).map (Value.int .i64)) ∧
      (liveL (prs (cs.take k)) pl = [] → B = none ∧ d = 0) ∧ Below w.heap.size w wr) (fun _ i _ => cs.length - (intOf i).toNat)
  case atStart => exact ⟨0, none, 0, Nat.zero_le _, rfl, rfl, by simpa [liveL, prs, sortL] using World.ownsRow_nil w 0 3 1, fun _ => ⟨rfl, rfl⟩, ext_refl w⟩
  case round =>
    obtain ⟨k, B, d, hk, rfl, rfl, hrow, hnil, hB⟩ := hrel
    have HNIL := Lib.hid hnil
    clear hnil
    have hll := liveL_length (prs (cs.take k)) pl
    have hl2 : (prs (cs.take k)).length ≤ 1000000 := by rw [prs_length]; simp; omega
    replace h0 := (hB.cell (p := ⟨q, 0, none⟩) hp).trans h0
    have hpr := Nat.lt_of_lt_of_le hp hB.size
    by_cases hlt : k < cs.length
    · obtain ⟨g, cur, rfl, hgb, hg, hcell⟩ := hcells (by omega)
      obtain ⟨g0, g1, _⟩ := hcell k hlt
      have hkl : (k : Int) < (cs.length : Int) := by omega
      replace g0 := (hB.cell (p := ⟨g, k * 6, none⟩) hg).trans g0
      replace g1 := (hB.cell (p := ⟨g, k * 6 + 1, none⟩) hg).trans g1
      have hgr := Nat.lt_of_lt_of_le hg hB.size
      have hsn : liveL (prs (cs.take (k + 1))) pl = liveL (prs (cs.take k)) pl ++ (if cs[k].p.place == pl then [cs[k].p.rule] else []) := by
        rw [List.take_succ_eq_append_getElem hlt, prs_snoc, liveL_snoc]
      have HX := Lib.hid (And.intro hB hsn)
      clear hcell hcells hsn hg hgb hp
      generalize hx : cs[k] = x at *
      clear hx
      have HL := Lib.hid (sortL_length (liveL (prs (cs.take k)) pl))
      have HSN := Lib.hid (sortL_snoc (liveL (prs (cs.take k)) pl) x.p.rule)
      generalize liveL (prs (cs.take k)) pl = L at *
      by_cases hpp : (x.p.place == pl) = true
      · have hpp' : (x.p.place != pl) = false := by simpa using hpp
        have HP := Lib.hid hpp
        rw [← HL.out] at hrow ⊢
        have hle := below_le x.p.rule (sortL L)
        have HLT := Lib.hid (below_lt x.p.rule (sortL L))
        have HGE := Lib.hid (below_ge x.p.rule (sortL L))
        have HIN := Lib.hid (show insL x.p.rule (sortL L) = (sortL L).take (below x.p.rule (sortL L)) ++ x.p.rule :: (sortL L).drop (below x.p.rule (sortL L)) from rfl)
        have hMl := HL.out
        generalize below x.p.rule (sortL L) = n at *
        generalize sortL L = M at *
        have HROW := Lib.hid hrow
        have hbnd : M.length ≤ 1000000 := by omega
        have HML := Lib.hid hMl
        clear hrow hB hMl
        go_wp2
        obtain ⟨W, rfl⟩ : ∃ W : World, W = wr := ⟨_, rfl⟩
        go_loopw [7] (fun j wr => ∃ i : Nat, i ≤ n ∧ j = .int .i64 i ∧ ∃ a, wr = W.drewN a) (fun j _ => n - (intOf j).toNat)
        case atStart => exact ⟨0, Nat.zero_le _, rfl, 0, rfl⟩
        case round =>
          obtain ⟨i, hin, rfl, hWr⟩ := hrel
          have hc0 : wr.cell? ⟨q, 0, none⟩ = some (.slice (some ⟨g, 0, none⟩) cs.length c) := by obtain ⟨a, rfl⟩ := hWr; exact h0
          have hcg : wr.cell? ⟨g, k * 6, none⟩ = some (.int .i64 x.p.rule) := by obtain ⟨a, rfl⟩ := hWr; exact g0
          have HWr := Lib.hid hWr
          by_cases hlm : i < M.length
          · obtain ⟨go, capo, eo, -, hgo⟩ := HROW.out.form (by omega)
            injection eo with eo1 _ eo3
            subst eo1 eo3
            have hci : wr.cell? ⟨go, i, none⟩ = some (.int .i64 M[i]) := by
              obtain ⟨a, rfl⟩ := hWr
              have := ints_cells W _ _ _ _ M HROW.out rfl _ rfl i hlm
              rw [Addr.add_lit, Nat.zero_add] at this
              exact this
            have hil : (i : Int) < (M.length : Int) := by omega
            clear hWr
            by_cases hi2 : i < n
            · have h1 := HLT.out i hi2 hlm
              have HB0 := Lib.hid hin
              generalize M[i] = m at *
              go_wp2
              go_quiet (fail)
              go_wp2
              go_roundw
              case rel => exact ⟨i + 1, by omega, by go_num, by obtain ⟨a, rfl⟩ := HWr.out; exact ⟨_, World.drewN_drewN _ _ _⟩⟩
              case measure => simp [intOf]; omega
            · obtain rfl : n = i := by omega
              have h1 : ¬ (M[n] < x.p.rule) := by have := HGE.out hlm; omega
              generalize M[n] = m at *
              go_wp2
              go_quiet (fail)
              go_wp2
              obtain ⟨Y, hY⟩ : ∃ Y, Y = wr.drewN nq := ⟨_, rfl⟩
              have hbY : Below W.heap.size W Y := by
                obtain ⟨a, rfl⟩ := HWr.out
                rw [hY]
                exact ext_trans (drew_ext ⟨a, rfl⟩) (drew_ext ⟨_, rfl⟩)
              rw [← hY]
              have k0 := (hbY.cell (p := ⟨q, 0, none⟩) hpr).trans h0
              have kg := (hbY.cell (p := ⟨g, k * 6, none⟩) hgr).trans g0
              have hpY := Nat.lt_of_lt_of_le hpr hbY.size
              have hgY := Nat.lt_of_lt_of_le hgr hbY.size
              have hn0 : (0 : Int) ≤ (n : Int) := by omega
              have hnd : (n : Int) ≤ (d : Int) := by
                obtain ⟨_, _, e, h1, _⟩ := Reads.of_own HROW.out
                injection e with _ _ e3
                omega
              have hnl : (n : Int) ≤ (M.length : Int) := by omega
              have HTK := Lib.hid (fun V (hb : Below W.heap.size W V) (ad : Addr) (had : (some (⟨go, 0, none⟩ : Addr)) = some ad) j u (hu : ((M.take n).map (Value.int .i64))[j]? = some u) => show V.cell? (ad.add j) = some u from by
                have hj : j < n ∧ j < M.length := by
                  have := (List.getElem?_eq_some_iff.1 hu).1
                  simp at this; omega
                have h1 := ints_cells W _ _ _ _ M HROW.out rfl _ rfl j hj.2
                have h2 : u = .int .i64 M[j] := by
                  simp [List.getElem?_take, hj] at hu
                  exact hu.symm
                subst h2
                cases had
                rw [hb.cell (World.block_lt_of_cell? W _ h1)]
                exact h1)
              have HDR := Lib.hid (fun V (hb : Below W.heap.size W V) (ad : Addr) (had : (if d = n then some (⟨go, 0, none⟩ : Addr) else some ⟨go, n, none⟩) = some ad) j u (hu : ((M.drop n).map (Value.int .i64))[j]? = some u) => show V.cell? (ad.add j) = some u from by
                have hj : n + j < M.length := by
                  have := (List.getElem?_eq_some_iff.1 hu).1
                  simp at this; omega
                have h1 := ints_cells W _ _ _ _ M HROW.out rfl _ rfl (n + j) hj
                rw [Addr.add_lit, Nat.zero_add] at h1
                have h2 : u = .int .i64 M[n + j] := by
                  simp [List.getElem?_drop, hj] at hu
                  exact hu.symm
                subst h2
                have hMd : M.length ≤ d := by
                  obtain ⟨_, _, e, h1, _⟩ := Reads.of_own HROW.out
                  injection e with _ _ e3
                  omega
                rw [if_neg (by omega)] at had
                cases had
                have e : (⟨go, n, none⟩ : Addr).add j = ⟨go, n + j, none⟩ := by rw [Addr.add_lit]
                rw [e, (hb.cell (p := ⟨go, n + j, none⟩) (World.block_lt_of_cell? W _ h1))]
                exact h1)
              have HYW := Lib.hid hbY
              clear hY h0 g0
              refine AtE.start (S := fun w' => Below Y.heap.size Y w') 13 (by kernel_rfl) (by kernel_rfl) (by exact (ext_refl Y).drew) (fun hHeld => ?_)
              refine AtE.take (i := 0) (v := ?_) rfl (by kernel_rfl) (by kernel_rfl) (by kernel_rfl) (fun _ _ _ h => h) (by decide) (Or.inl ⟨by rfl, ?_⟩) hHeld ?_
              rotate_left
              · intro wH hSw; have k1 := (hSw.cell (p := ⟨q, 0, none⟩) hpY).trans k0; have k2 := (hSw.cell (p := ⟨g, k * 6, none⟩) hgY).trans kg; go_simp; try (with_reducible rfl)
              simp only [Act.put, List.setIfInBounds_toArray, List.set_cons_zero, List.set_cons_succ]
              refine AtE.take (i := 1) (v := ?_) rfl (by kernel_rfl) (by kernel_rfl) (by kernel_rfl) (fun _ _ _ h => h) (by decide) (Or.inl ⟨by rfl, ?_⟩) hHeld ?_
              rotate_left
              · intro wH hSw; have k1 := (hSw.cell (p := ⟨q, 0, none⟩) hpY).trans k0; have k2 := (hSw.cell (p := ⟨g, k * 6, none⟩) hgY).trans kg; go_simp; try (with_reducible rfl)
              simp only [Act.put, List.setIfInBounds_toArray, List.set_cons_zero, List.set_cons_succ]
              refine AtE.take (i := 2) (v := ?_) rfl (by kernel_rfl) (by kernel_rfl) (by kernel_rfl) (fun _ _ _ h => h) (by decide) (Or.inl ⟨by rfl, ?_⟩) hHeld ?_
              rotate_left
              · intro wH hSw; have k1 := (hSw.cell (p := ⟨q, 0, none⟩) hpY).trans k0; have k2 := (hSw.cell (p := ⟨g, k * 6, none⟩) hgY).trans kg; go_simp; try (with_reducible rfl)
              simp only [Act.put, List.setIfInBounds_toArray, List.set_cons_zero, List.set_cons_succ]
              refine AtE.take (i := 3) (v := ?_) rfl (by kernel_rfl) (by kernel_rfl) (by kernel_rfl) (fun _ _ _ h => h) (by decide) (Or.inl ⟨by rfl, ?_⟩) hHeld ?_
              rotate_left
              · intro wH hSw; have k1 := (hSw.cell (p := ⟨q, 0, none⟩) hpY).trans k0; have k2 := (hSw.cell (p := ⟨g, k * 6, none⟩) hgY).trans kg; go_simp; try (with_reducible rfl)
              simp only [Act.put, List.setIfInBounds_toArray, List.set_cons_zero, List.set_cons_succ]
              refine AtE.take (i := 4) (v := ?_) rfl (by kernel_rfl) (by kernel_rfl) (by kernel_rfl) (fun _ _ _ h => h) (by decide) (Or.inl ⟨by rfl, ?_⟩) hHeld ?_
              rotate_left
              · intro wH hSw; have k1 := (hSw.cell (p := ⟨q, 0, none⟩) hpY).trans k0; have k2 := (hSw.cell (p := ⟨g, k * 6, none⟩) hgY).trans kg; go_simp; try (with_reducible rfl)
              simp only [Act.put, List.setIfInBounds_toArray, List.set_cons_zero, List.set_cons_succ]
              refine AtE.take (i := 5) (v := ?_) rfl (by kernel_rfl) (by kernel_rfl) (by kernel_rfl) (fun _ _ _ h => h) (by decide) (Or.inl ⟨by rfl, ?_⟩) hHeld ?_
              rotate_left
              · intro wH hSw; have k1 := (hSw.cell (p := ⟨q, 0, none⟩) hpY).trans k0; have k2 := (hSw.cell (p := ⟨g, k * 6, none⟩) hgY).trans kg; go_simp; try (with_reducible rfl)
              simp only [Act.put, List.setIfInBounds_toArray, List.set_cons_zero, List.set_cons_succ]
              refine AtE.take (i := 6) (v := ?_) rfl (by kernel_rfl) (by kernel_rfl) (by kernel_rfl) (fun _ _ _ h => h) (by decide) (Or.inl ⟨by rfl, ?_⟩) hHeld ?_
              rotate_left
              · intro wH hSw; have k1 := (hSw.cell (p := ⟨q, 0, none⟩) hpY).trans k0; have k2 := (hSw.cell (p := ⟨g, k * 6, none⟩) hgY).trans kg; go_simp; try (with_reducible rfl)
              simp only [Act.put, List.setIfInBounds_toArray, List.set_cons_zero, List.set_cons_succ]
              refine AtE.take (i := 7) (v := ?_) rfl (by kernel_rfl) (by kernel_rfl) (by kernel_rfl) (fun _ _ _ h => h) (by decide) (Or.inl ⟨by rfl, ?_⟩) hHeld ?_
              rotate_left
              · intro wH hSw; have k1 := (hSw.cell (p := ⟨q, 0, none⟩) hpY).trans k0; have k2 := (hSw.cell (p := ⟨g, k * 6, none⟩) hgY).trans kg; go_simp; try (with_reducible rfl)
              simp only [Act.put, List.setIfInBounds_toArray, List.set_cons_zero, List.set_cons_succ]
              refine AtE.take (i := 9) (v := ?_) rfl (by kernel_rfl) (by kernel_rfl) (by kernel_rfl) (fun _ _ _ h => h) (by decide) (Or.inl ⟨by rfl, ?_⟩) hHeld ?_
              rotate_left
              · intro wH hSw; have k1 := (hSw.cell (p := ⟨q, 0, none⟩) hpY).trans k0; have k2 := (hSw.cell (p := ⟨g, k * 6, none⟩) hgY).trans kg; go_simp; try (with_reducible rfl)
              simp only [Act.put, List.setIfInBounds_toArray, List.set_cons_zero, List.set_cons_succ]
              refine AtE.take (i := 10) (v := ?_) rfl (by kernel_rfl) (by kernel_rfl) (by kernel_rfl) (fun _ _ _ h => h) (by decide) (Or.inl ⟨by rfl, ?_⟩) hHeld ?_
              rotate_left
              · intro wH hSw; have k1 := (hSw.cell (p := ⟨q, 0, none⟩) hpY).trans k0; have k2 := (hSw.cell (p := ⟨g, k * 6, none⟩) hgY).trans kg; go_simp; try (with_reducible rfl)
              simp only [Act.put, List.setIfInBounds_toArray, List.set_cons_zero, List.set_cons_succ]
              refine AtE.take (i := 11) (v := ?_) rfl (by kernel_rfl) (by kernel_rfl) (by kernel_rfl) (fun _ _ _ h => h) (by decide) (Or.inl ⟨by rfl, ?_⟩) hHeld ?_
              rotate_left
              · intro wH hSw; have k1 := (hSw.cell (p := ⟨q, 0, none⟩) hpY).trans k0; have k2 := (hSw.cell (p := ⟨g, k * 6, none⟩) hgY).trans kg; go_simp; try (with_reducible rfl)
              simp only [Act.put, List.setIfInBounds_toArray, List.set_cons_zero, List.set_cons_succ]
              refine AtE.one (i := 8) rfl (by kernel_rfl) (fun K hK => ?_)
              go_simp
              refine hK.out _ _ (fun _ => ext_trans hHeld ((ext_refl _).alloc (Nat.le_refl _) _)) (fun hHeld' => ?_)
              have hHeld := hHeld' (by decide)
              clear hK K hHeld'
              refine AtE.one (i := 12) rfl (by kernel_rfl) (fun K hK => ?_)
              refine step_app (by rfl) (.tmp 57) (.tmp 60) 77 (by rfl) 3 i0 _ 1 8 Try.underlying77 hi hz0 hz1 hz2 rfl (by decide) (.slice (some ⟨Y.heap.size, 0, none⟩) 1 1) 1 [.int .i64 x.p.rule] (by rfl) (World.ownsRow_lit Y.drew #[.int .i64 x.p.rule] 1 (Nat.zero_le _) (by unfold maxLen; omega) rfl) _ _ _ ((M.drop n).map (Value.int .i64)) (by rfl) (by simp) (by split <;> simp) (fun ad had j u hu => HDR.out _ (ext_trans HYW.out hHeld) ad had j u hu) (ints_oneCell _ _) (by unfold maxLen; omega) (by omega) ?_
              intro A2 c2 Z hrow2 hu2 hv2 hz2'
              have hYZ : Below Y.heap.size Y Z := hHeld.trans (hu2.below (B := Y.heap.size) hHeld.size (fun k hk e => by simp [Value.ownBlock] at e; omega))
              have HZ := Lib.hid (And.intro hrow2 (And.intro hYZ (fun k hk => show Y.heap.size ≤ k from (hv2 k hk).elim (fun h => by simp [Value.ownBlock] at h; omega) (fun h => by simp at h; omega))))
              refine hK.out _ _ (fun _ => hYZ) (fun hHeld' => ?_)
              clear hHeld hrow2 hu2 hv2 hz2' hYZ hK K hHeld'
              have hHeld : True := trivial
              refine AtE.one (i := 13) rfl (by kernel_rfl) (fun K hK => ?_)
              go_simp
              refine hK.out _ _ (fun h => absurd rfl h) (fun _ => ?_)
              clear hK K
              refine AtE.done (by kernel_rfl) ?_
              clear hHeld k0 kg hpY hgY
              have HYZ := Lib.hid (ext_trans HYW.out HZ.out.2.1)
              go_wp2_with (first
                | (at_builtin; (refine wpList_app rfl (.tmp 62) (.tmp 65) 77 rfl 3 i0 _ 1 8 Try.underlying77 hi hz0 hz1 hz2 rfl (by decide) (.slice (some ⟨Z.heap.size, 0, none⟩) 0 0) 0 [] rfl (own_empty Z _ _) _ n _ ((M.take n).map (Value.int .i64)) rfl (by simp <;> omega) (by simp) (fun ad had j u hu => HTK.out _ (ext_trans HYZ.out ((ext_refl Z).alloc (Nat.le_refl _) _)) ad had j u hu) (ints_oneCell _ _) (by unfold maxLen; omega) (by omega) ?_)
                   intro A3 c3 V hrow3 hu3 hv3 hz3'
                   rw [Nat.zero_add, List.nil_append] at hrow3
                   rw [Nat.zero_add] at hv3
                   have hZV : Below Z.heap.size Z V := ((ext_refl Z).alloc (Nat.le_refl _) (.cells #[] 3)).trans (hu3.below (B := Z.heap.size) (by simp) (fun j hj e => by simp [Value.ownBlock] at e; omega))
                   have HV := Lib.hid (And.intro hrow3 (And.intro hZV (fun j hj => show Z.heap.size ≤ j from (hv3 j hj).elim (fun h => by simp [Value.ownBlock] at h; omega) (fun h => by simp at h; omega))))
                   have HZV := Lib.hid (ownsRow_keep HZ.out.1 (Upd.of_ext (S := fun _ => False) hZV) (fun _ _ h => h))
                   clear hrow3 hu3 hv3 hz3' hZV)
                | (at_builtin; (refine wpList_app rfl (.tmp 66) (.tmp 67) 77 rfl 3 i0 _ 1 8 Try.underlying77 hi hz0 hz1 hz2 rfl (by decide) (.slice A3 n c3) n _ rfl HV.out.1 _ _ _ ([.int .i64 x.p.rule] ++ (M.drop n).map (Value.int .i64)) rfl (by simp <;> omega) (own_none HZV.out) (own_some HZV.out) (by simpa using ints_oneCell _ (x.p.rule :: M.drop n)) (by unfold maxLen; omega) (by omega) ?_)
                   intro A4 c4 U hrow4 hu4 hv4 hz4'
                   have HU := Lib.hid (And.intro hrow4 hu4)
                   clear hrow4 hu4 hv4 hz4'))
              go_roundw
              case rel =>
                obtain ⟨h3, h4⟩ := HX.out
                rw [HP.out, if_pos rfl] at h4
                have hl : (liveL (prs (cs.take (k + 1))) pl).length = n + (1 + (M.length - n)) := by
                  have := HML.out; rw [h4, List.length_append, List.length_singleton]; (first | omega | (simp at this ⊢; omega))
                have hs : sortL (liveL (prs (cs.take (k + 1))) pl) = M.take n ++ x.p.rule :: M.drop n := by
                  rw [h4, HSN.out]; exact HIN.out
                refine ⟨k + 1, A4, c4, by omega, by go_num, by rw [hl], ?_, fun h => by rw [h4] at h; simp at h, ?_⟩
                · rw [hs, hl]
                  exact ownsRow_cast HU.out.1 rfl (by simp)
                · have hb := ext_trans HYZ.out HV.out.2.1
                  exact (h3.trans (hb.mono h3.size)).trans (HU.out.2.below (B := w.heap.size) (Nat.le_trans h3.size hb.size) (fun j hj e => by
                    have h1 := HV.out.2.2 j e
                    have h2 := HYZ.out.size
                    have h5 := h3.size
                    omega))
              case measure => simp [intOf]; omega
          · obtain rfl : i = M.length := by omega
            obtain rfl : n = M.length := by omega
            have hdc : decide (M.length < M.length) = false := by simp
            clear hWr
            by_cases hM0 : 0 < M.length
            · obtain ⟨go, capo, eo, -, hgo⟩ := HROW.out.form (by omega)
              injection eo with eo1 _ eo3
              subst eo1 eo3
              go_wp2
              go_quiet (fail)
              go_wp2
              obtain ⟨Y, hY⟩ : ∃ Y, Y = wr.drewN nq := ⟨_, rfl⟩
              have hbY : Below W.heap.size W Y := by
                obtain ⟨a, rfl⟩ := HWr.out
                rw [hY]
                exact ext_trans (drew_ext ⟨a, rfl⟩) (drew_ext ⟨_, rfl⟩)
              rw [← hY]
              have k0 := (hbY.cell (p := ⟨q, 0, none⟩) hpr).trans h0
              have kg := (hbY.cell (p := ⟨g, k * 6, none⟩) hgr).trans g0
              have hpY := Nat.lt_of_lt_of_le hpr hbY.size
              have hgY := Nat.lt_of_lt_of_le hgr hbY.size
              have hn0 : (0 : Int) ≤ (M.length : Int) := by omega
              have hnd : (M.length : Int) ≤ (d : Int) := by
                obtain ⟨_, _, e, h1, _⟩ := Reads.of_own HROW.out
                injection e with _ _ e3
                omega
              have hnl : (M.length : Int) ≤ (M.length : Int) := by omega
              have HTK := Lib.hid (fun V (hb : Below W.heap.size W V) (ad : Addr) (had : (some (⟨go, 0, none⟩ : Addr)) = some ad) j u (hu : ((M.take M.length).map (Value.int .i64))[j]? = some u) => show V.cell? (ad.add j) = some u from by
                have hj : j < M.length ∧ j < M.length := by
                  have := (List.getElem?_eq_some_iff.1 hu).1
                  simp at this; omega
                have h1 := ints_cells W _ _ _ _ M HROW.out rfl _ rfl j hj.2
                have h2 : u = .int .i64 M[j] := by
                  simp [List.getElem?_take, hj] at hu
                  exact hu.symm
                subst h2
                cases had
                rw [hb.cell (World.block_lt_of_cell? W _ h1)]
                exact h1)
              have HDR := Lib.hid (fun V (hb : Below W.heap.size W V) (ad : Addr) (had : (if d = M.length then some (⟨go, 0, none⟩ : Addr) else some ⟨go, M.length, none⟩) = some ad) j u (hu : ((M.drop M.length).map (Value.int .i64))[j]? = some u) => show V.cell? (ad.add j) = some u from by simp at hu)
              have HYW := Lib.hid hbY
              clear hY h0 g0
              refine AtE.start (S := fun w' => Below Y.heap.size Y w') 13 (by kernel_rfl) (by kernel_rfl) (by exact (ext_refl Y).drew) (fun hHeld => ?_)
              refine AtE.take (i := 0) (v := ?_) rfl (by kernel_rfl) (by kernel_rfl) (by kernel_rfl) (fun _ _ _ h => h) (by decide) (Or.inl ⟨by rfl, ?_⟩) hHeld ?_
              rotate_left
              · intro wH hSw; have k1 := (hSw.cell (p := ⟨q, 0, none⟩) hpY).trans k0; have k2 := (hSw.cell (p := ⟨g, k * 6, none⟩) hgY).trans kg; go_simp; try (with_reducible rfl)
              simp only [Act.put, List.setIfInBounds_toArray, List.set_cons_zero, List.set_cons_succ]
              refine AtE.take (i := 1) (v := ?_) rfl (by kernel_rfl) (by kernel_rfl) (by kernel_rfl) (fun _ _ _ h => h) (by decide) (Or.inl ⟨by rfl, ?_⟩) hHeld ?_
              rotate_left
              · intro wH hSw; have k1 := (hSw.cell (p := ⟨q, 0, none⟩) hpY).trans k0; have k2 := (hSw.cell (p := ⟨g, k * 6, none⟩) hgY).trans kg; go_simp; try (with_reducible rfl)
              simp only [Act.put, List.setIfInBounds_toArray, List.set_cons_zero, List.set_cons_succ]
              refine AtE.take (i := 2) (v := ?_) rfl (by kernel_rfl) (by kernel_rfl) (by kernel_rfl) (fun _ _ _ h => h) (by decide) (Or.inl ⟨by rfl, ?_⟩) hHeld ?_
              rotate_left
              · intro wH hSw; have k1 := (hSw.cell (p := ⟨q, 0, none⟩) hpY).trans k0; have k2 := (hSw.cell (p := ⟨g, k * 6, none⟩) hgY).trans kg; go_simp; try (with_reducible rfl)
              simp only [Act.put, List.setIfInBounds_toArray, List.set_cons_zero, List.set_cons_succ]
              refine AtE.take (i := 3) (v := ?_) rfl (by kernel_rfl) (by kernel_rfl) (by kernel_rfl) (fun _ _ _ h => h) (by decide) (Or.inl ⟨by rfl, ?_⟩) hHeld ?_
              rotate_left
              · intro wH hSw; have k1 := (hSw.cell (p := ⟨q, 0, none⟩) hpY).trans k0; have k2 := (hSw.cell (p := ⟨g, k * 6, none⟩) hgY).trans kg; go_simp; try (with_reducible rfl)
              simp only [Act.put, List.setIfInBounds_toArray, List.set_cons_zero, List.set_cons_succ]
              refine AtE.take (i := 4) (v := ?_) rfl (by kernel_rfl) (by kernel_rfl) (by kernel_rfl) (fun _ _ _ h => h) (by decide) (Or.inl ⟨by rfl, ?_⟩) hHeld ?_
              rotate_left
              · intro wH hSw; have k1 := (hSw.cell (p := ⟨q, 0, none⟩) hpY).trans k0; have k2 := (hSw.cell (p := ⟨g, k * 6, none⟩) hgY).trans kg; go_simp; try (with_reducible rfl)
              simp only [Act.put, List.setIfInBounds_toArray, List.set_cons_zero, List.set_cons_succ]
              refine AtE.take (i := 5) (v := ?_) rfl (by kernel_rfl) (by kernel_rfl) (by kernel_rfl) (fun _ _ _ h => h) (by decide) (Or.inl ⟨by rfl, ?_⟩) hHeld ?_
              rotate_left
              · intro wH hSw; have k1 := (hSw.cell (p := ⟨q, 0, none⟩) hpY).trans k0; have k2 := (hSw.cell (p := ⟨g, k * 6, none⟩) hgY).trans kg; go_simp; try (with_reducible rfl)
              simp only [Act.put, List.setIfInBounds_toArray, List.set_cons_zero, List.set_cons_succ]
              refine AtE.take (i := 6) (v := ?_) rfl (by kernel_rfl) (by kernel_rfl) (by kernel_rfl) (fun _ _ _ h => h) (by decide) (Or.inl ⟨by rfl, ?_⟩) hHeld ?_
              rotate_left
              · intro wH hSw; have k1 := (hSw.cell (p := ⟨q, 0, none⟩) hpY).trans k0; have k2 := (hSw.cell (p := ⟨g, k * 6, none⟩) hgY).trans kg; go_simp; try (with_reducible rfl)
              simp only [Act.put, List.setIfInBounds_toArray, List.set_cons_zero, List.set_cons_succ]
              refine AtE.take (i := 7) (v := ?_) rfl (by kernel_rfl) (by kernel_rfl) (by kernel_rfl) (fun _ _ _ h => h) (by decide) (Or.inl ⟨by rfl, ?_⟩) hHeld ?_
              rotate_left
              · intro wH hSw; have k1 := (hSw.cell (p := ⟨q, 0, none⟩) hpY).trans k0; have k2 := (hSw.cell (p := ⟨g, k * 6, none⟩) hgY).trans kg; go_simp; try (with_reducible rfl)
              simp only [Act.put, List.setIfInBounds_toArray, List.set_cons_zero, List.set_cons_succ]
              refine AtE.take (i := 9) (v := ?_) rfl (by kernel_rfl) (by kernel_rfl) (by kernel_rfl) (fun _ _ _ h => h) (by decide) (Or.inl ⟨by rfl, ?_⟩) hHeld ?_
              rotate_left
              · intro wH hSw; have k1 := (hSw.cell (p := ⟨q, 0, none⟩) hpY).trans k0; have k2 := (hSw.cell (p := ⟨g, k * 6, none⟩) hgY).trans kg; go_simp; try (with_reducible rfl)
              simp only [Act.put, List.setIfInBounds_toArray, List.set_cons_zero, List.set_cons_succ]
              refine AtE.take (i := 10) (v := ?_) rfl (by kernel_rfl) (by kernel_rfl) (by kernel_rfl) (fun _ _ _ h => h) (by decide) (Or.inl ⟨by rfl, ?_⟩) hHeld ?_
              rotate_left
              · intro wH hSw; have k1 := (hSw.cell (p := ⟨q, 0, none⟩) hpY).trans k0; have k2 := (hSw.cell (p := ⟨g, k * 6, none⟩) hgY).trans kg; go_simp; try (with_reducible rfl)
              simp only [Act.put, List.setIfInBounds_toArray, List.set_cons_zero, List.set_cons_succ]
              refine AtE.take (i := 11) (v := ?_) rfl (by kernel_rfl) (by kernel_rfl) (by kernel_rfl) (fun _ _ _ h => h) (by decide) (Or.inl ⟨by rfl, ?_⟩) hHeld ?_
              rotate_left
              · intro wH hSw; have k1 := (hSw.cell (p := ⟨q, 0, none⟩) hpY).trans k0; have k2 := (hSw.cell (p := ⟨g, k * 6, none⟩) hgY).trans kg; go_simp; try (with_reducible rfl)
              simp only [Act.put, List.setIfInBounds_toArray, List.set_cons_zero, List.set_cons_succ]
              refine AtE.one (i := 8) rfl (by kernel_rfl) (fun K hK => ?_)
              go_simp
              refine hK.out _ _ (fun _ => ext_trans hHeld ((ext_refl _).alloc (Nat.le_refl _) _)) (fun hHeld' => ?_)
              have hHeld := hHeld' (by decide)
              clear hK K hHeld'
              refine AtE.one (i := 12) rfl (by kernel_rfl) (fun K hK => ?_)
              refine step_app (by rfl) (.tmp 57) (.tmp 60) 77 (by rfl) 3 i0 _ 1 8 Try.underlying77 hi hz0 hz1 hz2 rfl (by decide) (.slice (some ⟨Y.heap.size, 0, none⟩) 1 1) 1 [.int .i64 x.p.rule] (by rfl) (World.ownsRow_lit Y.drew #[.int .i64 x.p.rule] 1 (Nat.zero_le _) (by unfold maxLen; omega) rfl) _ _ _ ((M.drop M.length).map (Value.int .i64)) (by rfl) (by simp) (by split <;> simp) (fun ad had j u hu => HDR.out _ (ext_trans HYW.out hHeld) ad had j u hu) (ints_oneCell _ _) (by unfold maxLen; omega) (by omega) ?_
              intro A2 c2 Z hrow2 hu2 hv2 hz2'
              have hYZ : Below Y.heap.size Y Z := hHeld.trans (hu2.below (B := Y.heap.size) hHeld.size (fun k hk e => by simp [Value.ownBlock] at e; omega))
              have HZ := Lib.hid (And.intro hrow2 (And.intro hYZ (fun k hk => show Y.heap.size ≤ k from (hv2 k hk).elim (fun h => by simp [Value.ownBlock] at h; omega) (fun h => by simp at h; omega))))
              refine hK.out _ _ (fun _ => hYZ) (fun hHeld' => ?_)
              clear hHeld hrow2 hu2 hv2 hz2' hYZ hK K hHeld'
              have hHeld : True := trivial
              refine AtE.one (i := 13) rfl (by kernel_rfl) (fun K hK => ?_)
              go_simp
              refine hK.out _ _ (fun h => absurd rfl h) (fun _ => ?_)
              clear hK K
              refine AtE.done (by kernel_rfl) ?_
              clear hHeld k0 kg hpY hgY
              have HYZ := Lib.hid (ext_trans HYW.out HZ.out.2.1)
              go_wp2_with (first
                | (at_builtin; (refine wpList_app rfl (.tmp 62) (.tmp 65) 77 rfl 3 i0 _ 1 8 Try.underlying77 hi hz0 hz1 hz2 rfl (by decide) (.slice (some ⟨Z.heap.size, 0, none⟩) 0 0) 0 [] rfl (own_empty Z _ _) _ M.length _ ((M.take M.length).map (Value.int .i64)) rfl (by simp <;> omega) (by simp) (fun ad had j u hu => HTK.out _ (ext_trans HYZ.out ((ext_refl Z).alloc (Nat.le_refl _) _)) ad had j u hu) (ints_oneCell _ _) (by unfold maxLen; omega) (by omega) ?_)
                   intro A3 c3 V hrow3 hu3 hv3 hz3'
                   rw [Nat.zero_add, List.nil_append] at hrow3
                   rw [Nat.zero_add] at hv3
                   have hZV : Below Z.heap.size Z V := ((ext_refl Z).alloc (Nat.le_refl _) (.cells #[] 3)).trans (hu3.below (B := Z.heap.size) (by simp) (fun j hj e => by simp [Value.ownBlock] at e; omega))
                   have HV := Lib.hid (And.intro hrow3 (And.intro hZV (fun j hj => show Z.heap.size ≤ j from (hv3 j hj).elim (fun h => by simp [Value.ownBlock] at h; omega) (fun h => by simp at h; omega))))
                   have HZV := Lib.hid (ownsRow_keep HZ.out.1 (Upd.of_ext (S := fun _ => False) hZV) (fun _ _ h => h))
                   clear hrow3 hu3 hv3 hz3' hZV)
                | (at_builtin; (refine wpList_app rfl (.tmp 66) (.tmp 67) 77 rfl 3 i0 _ 1 8 Try.underlying77 hi hz0 hz1 hz2 rfl (by decide) (.slice A3 M.length c3) M.length _ rfl HV.out.1 _ _ _ ([.int .i64 x.p.rule] ++ (M.drop M.length).map (Value.int .i64)) rfl (by simp <;> omega) (own_none HZV.out) (own_some HZV.out) (by simpa using ints_oneCell _ (x.p.rule :: M.drop M.length)) (by unfold maxLen; omega) (by omega) ?_)
                   intro A4 c4 U hrow4 hu4 hv4 hz4'
                   have HU := Lib.hid (And.intro hrow4 hu4)
                   clear hrow4 hu4 hv4 hz4'))
              go_roundw
              case rel =>
                obtain ⟨h3, h4⟩ := HX.out
                rw [HP.out, if_pos rfl] at h4
                have hl : (liveL (prs (cs.take (k + 1))) pl).length = M.length + (1 + 0) := by
                  have := HML.out; rw [h4, List.length_append, List.length_singleton]; (first | omega | (simp at this ⊢; omega))
                have hs : sortL (liveL (prs (cs.take (k + 1))) pl) = M.take M.length ++ x.p.rule :: M.drop M.length := by
                  rw [h4, HSN.out]; exact HIN.out
                refine ⟨k + 1, A4, c4, by omega, by go_num, by rw [hl], ?_, fun h => by rw [h4] at h; simp at h, ?_⟩
                · rw [hs, hl]
                  exact ownsRow_cast HU.out.1 rfl (by simp)
                · have hb := ext_trans HYZ.out HV.out.2.1
                  exact (h3.trans (hb.mono h3.size)).trans (HU.out.2.below (B := w.heap.size) (Nat.le_trans h3.size hb.size) (fun j hj e => by
                    have h1 := HV.out.2.2 j e
                    have h2 := HYZ.out.size
                    have h5 := h3.size
                    omega))
              case measure => simp [intOf]; omega
            · have hM : M = [] := List.eq_nil_of_length_eq_zero (by omega)
              subst hM
              obtain ⟨rfl, rfl⟩ : B = none ∧ d = 0 := by
                exact HNIL.out (List.eq_nil_of_length_eq_zero (by have := HML.out; simpa using this.symm))
              go_wp2
              go_quiet (fail)
              go_wp2
              obtain ⟨Y, hY⟩ : ∃ Y, Y = wr.drewN nq := ⟨_, rfl⟩
              have hbY : Below W.heap.size W Y := by
                obtain ⟨a, rfl⟩ := HWr.out
                rw [hY]
                exact ext_trans (drew_ext ⟨a, rfl⟩) (drew_ext ⟨_, rfl⟩)
              rw [← hY]
              have k0 := (hbY.cell (p := ⟨q, 0, none⟩) hpr).trans h0
              have kg := (hbY.cell (p := ⟨g, k * 6, none⟩) hgr).trans g0
              have hpY := Nat.lt_of_lt_of_le hpr hbY.size
              have hgY := Nat.lt_of_lt_of_le hgr hbY.size
              have hn0 : (0 : Int) ≤ (0 : Int) := by omega
              have HTK := Lib.hid (fun (V : World) (hb : Below W.heap.size W V) (ad : Addr) (had : (none : Option Addr) = some ad) (j : Nat) (u : Value) (hu : ((([] : List Int).take 0).map (Value.int .i64))[j]? = some u) => show V.cell? (ad.add j) = some u from by cases had)
              have HDR := Lib.hid (fun (V : World) (hb : Below W.heap.size W V) (ad : Addr) (had : (none : Option Addr) = some ad) (j : Nat) (u : Value) (hu : ((([] : List Int).drop 0).map (Value.int .i64))[j]? = some u) => show V.cell? (ad.add j) = some u from by cases had)
              have HYW := Lib.hid hbY
              clear hY h0 g0
              refine AtE.start (S := fun w' => Below Y.heap.size Y w') 13 (by kernel_rfl) (by kernel_rfl) (by exact (ext_refl Y).drew) (fun hHeld => ?_)
              refine AtE.take (i := 0) (v := ?_) rfl (by kernel_rfl) (by kernel_rfl) (by kernel_rfl) (fun _ _ _ h => h) (by decide) (Or.inl ⟨by rfl, ?_⟩) hHeld ?_
              rotate_left
              · intro wH hSw; have k1 := (hSw.cell (p := ⟨q, 0, none⟩) hpY).trans k0; have k2 := (hSw.cell (p := ⟨g, k * 6, none⟩) hgY).trans kg; go_simp; try (with_reducible rfl)
              simp only [Act.put, List.setIfInBounds_toArray, List.set_cons_zero, List.set_cons_succ]
              refine AtE.take (i := 1) (v := ?_) rfl (by kernel_rfl) (by kernel_rfl) (by kernel_rfl) (fun _ _ _ h => h) (by decide) (Or.inl ⟨by rfl, ?_⟩) hHeld ?_
              rotate_left
              · intro wH hSw; have k1 := (hSw.cell (p := ⟨q, 0, none⟩) hpY).trans k0; have k2 := (hSw.cell (p := ⟨g, k * 6, none⟩) hgY).trans kg; go_simp; try (with_reducible rfl)
              simp only [Act.put, List.setIfInBounds_toArray, List.set_cons_zero, List.set_cons_succ]
              refine AtE.take (i := 2) (v := ?_) rfl (by kernel_rfl) (by kernel_rfl) (by kernel_rfl) (fun _ _ _ h => h) (by decide) (Or.inl ⟨by rfl, ?_⟩) hHeld ?_
              rotate_left
              · intro wH hSw; have k1 := (hSw.cell (p := ⟨q, 0, none⟩) hpY).trans k0; have k2 := (hSw.cell (p := ⟨g, k * 6, none⟩) hgY).trans kg; go_simp; try (with_reducible rfl)
              simp only [Act.put, List.setIfInBounds_toArray, List.set_cons_zero, List.set_cons_succ]
              refine AtE.take (i := 3) (v := ?_) rfl (by kernel_rfl) (by kernel_rfl) (by kernel_rfl) (fun _ _ _ h => h) (by decide) (Or.inl ⟨by rfl, ?_⟩) hHeld ?_
              rotate_left
              · intro wH hSw; have k1 := (hSw.cell (p := ⟨q, 0, none⟩) hpY).trans k0; have k2 := (hSw.cell (p := ⟨g, k * 6, none⟩) hgY).trans kg; go_simp; try (with_reducible rfl)
              simp only [Act.put, List.setIfInBounds_toArray, List.set_cons_zero, List.set_cons_succ]
              refine AtE.take (i := 4) (v := ?_) rfl (by kernel_rfl) (by kernel_rfl) (by kernel_rfl) (fun _ _ _ h => h) (by decide) (Or.inl ⟨by rfl, ?_⟩) hHeld ?_
              rotate_left
              · intro wH hSw; have k1 := (hSw.cell (p := ⟨q, 0, none⟩) hpY).trans k0; have k2 := (hSw.cell (p := ⟨g, k * 6, none⟩) hgY).trans kg; go_simp; try (with_reducible rfl)
              simp only [Act.put, List.setIfInBounds_toArray, List.set_cons_zero, List.set_cons_succ]
              refine AtE.take (i := 5) (v := ?_) rfl (by kernel_rfl) (by kernel_rfl) (by kernel_rfl) (fun _ _ _ h => h) (by decide) (Or.inl ⟨by rfl, ?_⟩) hHeld ?_
              rotate_left
              · intro wH hSw; have k1 := (hSw.cell (p := ⟨q, 0, none⟩) hpY).trans k0; have k2 := (hSw.cell (p := ⟨g, k * 6, none⟩) hgY).trans kg; go_simp; try (with_reducible rfl)
              simp only [Act.put, List.setIfInBounds_toArray, List.set_cons_zero, List.set_cons_succ]
              refine AtE.take (i := 6) (v := ?_) rfl (by kernel_rfl) (by kernel_rfl) (by kernel_rfl) (fun _ _ _ h => h) (by decide) (Or.inl ⟨by rfl, ?_⟩) hHeld ?_
              rotate_left
              · intro wH hSw; have k1 := (hSw.cell (p := ⟨q, 0, none⟩) hpY).trans k0; have k2 := (hSw.cell (p := ⟨g, k * 6, none⟩) hgY).trans kg; go_simp; try (with_reducible rfl)
              simp only [Act.put, List.setIfInBounds_toArray, List.set_cons_zero, List.set_cons_succ]
              refine AtE.take (i := 7) (v := ?_) rfl (by kernel_rfl) (by kernel_rfl) (by kernel_rfl) (fun _ _ _ h => h) (by decide) (Or.inl ⟨by rfl, ?_⟩) hHeld ?_
              rotate_left
              · intro wH hSw; have k1 := (hSw.cell (p := ⟨q, 0, none⟩) hpY).trans k0; have k2 := (hSw.cell (p := ⟨g, k * 6, none⟩) hgY).trans kg; go_simp; try (with_reducible rfl)
              simp only [Act.put, List.setIfInBounds_toArray, List.set_cons_zero, List.set_cons_succ]
              refine AtE.take (i := 9) (v := ?_) rfl (by kernel_rfl) (by kernel_rfl) (by kernel_rfl) (fun _ _ _ h => h) (by decide) (Or.inl ⟨by rfl, ?_⟩) hHeld ?_
              rotate_left
              · intro wH hSw; have k1 := (hSw.cell (p := ⟨q, 0, none⟩) hpY).trans k0; have k2 := (hSw.cell (p := ⟨g, k * 6, none⟩) hgY).trans kg; go_simp; try (with_reducible rfl)
              simp only [Act.put, List.setIfInBounds_toArray, List.set_cons_zero, List.set_cons_succ]
              refine AtE.take (i := 10) (v := ?_) rfl (by kernel_rfl) (by kernel_rfl) (by kernel_rfl) (fun _ _ _ h => h) (by decide) (Or.inl ⟨by rfl, ?_⟩) hHeld ?_
              rotate_left
              · intro wH hSw; have k1 := (hSw.cell (p := ⟨q, 0, none⟩) hpY).trans k0; have k2 := (hSw.cell (p := ⟨g, k * 6, none⟩) hgY).trans kg; go_simp; try (with_reducible rfl)
              simp only [Act.put, List.setIfInBounds_toArray, List.set_cons_zero, List.set_cons_succ]
              refine AtE.take (i := 11) (v := ?_) rfl (by kernel_rfl) (by kernel_rfl) (by kernel_rfl) (fun _ _ _ h => h) (by decide) (Or.inl ⟨by rfl, ?_⟩) hHeld ?_
              rotate_left
              · intro wH hSw; have k1 := (hSw.cell (p := ⟨q, 0, none⟩) hpY).trans k0; have k2 := (hSw.cell (p := ⟨g, k * 6, none⟩) hgY).trans kg; go_simp; try (with_reducible rfl)
              simp only [Act.put, List.setIfInBounds_toArray, List.set_cons_zero, List.set_cons_succ]
              refine AtE.one (i := 8) rfl (by kernel_rfl) (fun K hK => ?_)
              go_simp
              refine hK.out _ _ (fun _ => ext_trans hHeld ((ext_refl _).alloc (Nat.le_refl _) _)) (fun hHeld' => ?_)
              have hHeld := hHeld' (by decide)
              clear hK K hHeld'
              refine AtE.one (i := 12) rfl (by kernel_rfl) (fun K hK => ?_)
              refine step_app (by rfl) (.tmp 57) (.tmp 60) 77 (by rfl) 3 i0 _ 1 8 Try.underlying77 hi hz0 hz1 hz2 rfl (by decide) (.slice (some ⟨Y.heap.size, 0, none⟩) 1 1) 1 [.int .i64 x.p.rule] (by rfl) (World.ownsRow_lit Y.drew #[.int .i64 x.p.rule] 1 (Nat.zero_le _) (by unfold maxLen; omega) rfl) _ _ _ ((([] : List Int).drop 0).map (Value.int .i64)) (by rfl) (by simp) (by simp) (fun ad had j u hu => HDR.out _ (ext_trans HYW.out hHeld) ad had j u hu) (ints_oneCell _ _) (by unfold maxLen; omega) (by omega) ?_
              intro A2 c2 Z hrow2 hu2 hv2 hz2'
              have hYZ : Below Y.heap.size Y Z := hHeld.trans (hu2.below (B := Y.heap.size) hHeld.size (fun k hk e => by simp [Value.ownBlock] at e; omega))
              have HZ := Lib.hid (And.intro hrow2 (And.intro hYZ (fun k hk => show Y.heap.size ≤ k from (hv2 k hk).elim (fun h => by simp [Value.ownBlock] at h; omega) (fun h => by simp at h; omega))))
              refine hK.out _ _ (fun _ => hYZ) (fun hHeld' => ?_)
              clear hHeld hrow2 hu2 hv2 hz2' hYZ hK K hHeld'
              have hHeld : True := trivial
              refine AtE.one (i := 13) rfl (by kernel_rfl) (fun K hK => ?_)
              go_simp
              refine hK.out _ _ (fun h => absurd rfl h) (fun _ => ?_)
              clear hK K
              refine AtE.done (by kernel_rfl) ?_
              clear hHeld k0 kg hpY hgY
              have HYZ := Lib.hid (ext_trans HYW.out HZ.out.2.1)
              go_wp2_with (first
                | (at_builtin; (refine wpList_app rfl (.tmp 62) (.tmp 65) 77 rfl 3 i0 _ 1 8 Try.underlying77 hi hz0 hz1 hz2 rfl (by decide) (.slice (some ⟨Z.heap.size, 0, none⟩) 0 0) 0 [] rfl (own_empty Z _ _) _ 0 _ ((([] : List Int).take 0).map (Value.int .i64)) rfl (by simp <;> omega) (by simp) (fun ad had j u hu => HTK.out _ (ext_trans HYZ.out ((ext_refl Z).alloc (Nat.le_refl _) _)) ad had j u hu) (ints_oneCell _ _) (by unfold maxLen; omega) (by omega) ?_)
                   intro A3 c3 V hrow3 hu3 hv3 hz3'
                   rw [Nat.zero_add, List.nil_append] at hrow3
                   rw [Nat.zero_add] at hv3
                   have hZV : Below Z.heap.size Z V := ((ext_refl Z).alloc (Nat.le_refl _) (.cells #[] 3)).trans (hu3.below (B := Z.heap.size) (by simp) (fun j hj e => by simp [Value.ownBlock] at e; omega))
                   have HV := Lib.hid (And.intro hrow3 (And.intro hZV (fun j hj => show Z.heap.size ≤ j from (hv3 j hj).elim (fun h => by simp [Value.ownBlock] at h; omega) (fun h => by simp at h; omega))))
                   have HZV := Lib.hid (ownsRow_keep HZ.out.1 (Upd.of_ext (S := fun _ => False) hZV) (fun _ _ h => h))
                   clear hrow3 hu3 hv3 hz3' hZV)
                | (at_builtin; (refine wpList_app rfl (.tmp 66) (.tmp 67) 77 rfl 3 i0 _ 1 8 Try.underlying77 hi hz0 hz1 hz2 rfl (by decide) (.slice A3 0 c3) 0 _ rfl HV.out.1 _ _ _ ([.int .i64 x.p.rule] ++ (([] : List Int).drop 0).map (Value.int .i64)) rfl (by simp <;> omega) (own_none HZV.out) (own_some HZV.out) (by simpa using ints_oneCell _ (x.p.rule :: ([] : List Int).drop 0)) (by unfold maxLen; omega) (by omega) ?_)
                   intro A4 c4 U hrow4 hu4 hv4 hz4'
                   have HU := Lib.hid (And.intro hrow4 hu4)
                   clear hrow4 hu4 hv4 hz4'))
              go_roundw
              case rel =>
                obtain ⟨h3, h4⟩ := HX.out
                rw [HP.out, if_pos rfl] at h4
                have hl : (liveL (prs (cs.take (k + 1))) pl).length = 0 + (1 + 0) := by
                  have := HML.out; rw [h4, List.length_append, List.length_singleton]; (first | omega | (simp at this ⊢; omega))
                have hs : sortL (liveL (prs (cs.take (k + 1))) pl) = ([] : List Int).take 0 ++ x.p.rule :: ([] : List Int).drop 0 := by
                  rw [h4, HSN.out]; exact HIN.out
                refine ⟨k + 1, A4, c4, by omega, by go_num, by rw [hl], ?_, fun h => by rw [h4] at h; simp at h, ?_⟩
                · rw [hs, hl]
                  exact ownsRow_cast HU.out.1 rfl (by simp)
                · have hb := ext_trans HYZ.out HV.out.2.1
                  exact (h3.trans (hb.mono h3.size)).trans (HU.out.2.below (B := w.heap.size) (Nat.le_trans h3.size hb.size) (fun j hj e => by
                    have h1 := HV.out.2.2 j e
                    have h2 := HYZ.out.size
                    have h5 := h3.size
                    omega))
              case measure => simp [intOf]; omega
      · have hp' : (x.p.place == pl) = false := by simpa using hpp
        have hp'' : (x.p.place != pl) = true := by simpa using hpp
        have HP := Lib.hid hp'
        have HROW := Lib.hid (And.intro hrow hB)
        clear hpp hrow hB
        go_wp2
        go_roundw
        case rel =>
          obtain ⟨h3, h4⟩ := HX.out
          rw [HP.out, if_neg (by simp), List.append_nil] at h4
          exact ⟨k + 1, B, d, by omega, by go_num, by rw [h4], by rw [h4]; exact HROW.out.1, fun h => HNIL.out (by rw [← h4]; exact h), h3⟩
        case measure => simp [intOf]; omega
    · obtain rfl : k = cs.length := by omega
      rw [List.take_length] at *
      have HX := Lib.hid (And.intro hrow hB)
      clear hrow hcells
      go_wp2
      go_ret
      exact ⟨.slice B (liveL (prs cs) pl).length d, rfl, HX.out.1, hB⟩
end Go.Proofs.Ytchmlhceidociaa
