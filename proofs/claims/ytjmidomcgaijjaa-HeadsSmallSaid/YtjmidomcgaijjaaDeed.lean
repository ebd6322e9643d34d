/- Deeds: as they lie in memory; how many; a deed turned. -/
import Derived.Test.YtjmidomcgaijjaaRefU
namespace Go.Proofs.Ytjmidomcgaijjaa
set_option linter.unusedVariables false
set_option linter.unusedSimpArgs false
open Go.RowKit

structure Dd where
  what : Int
  rule : Int
  place : Int
  touched : List Int
/-- what comes in: a row of deeds -/
def Deeds (w : World) (v : Value) (ds : List Dd) : Prop := ∃ A c, v = .slice A ds.length c ∧ ds.length ≤ c ∧ c ≤ maxLen ∧ ds.length ≤ 35184372088832 ∧
  (∀ d ∈ ds, i64 d.rule ∧ i64 d.place ∧ (∀ x ∈ d.touched, i64 x) ∧ d.touched.length ≤ 35184372088832) ∧
  (0 < ds.length → ∃ b o, A = some ⟨b, o, none⟩ ∧ b < w.heap.size ∧ ∀ k (hk : k < ds.length), ∃ tv, w.cell? ⟨b, o + k * 4, none⟩ = some (.int .i64 ds[k].what) ∧ w.cell? ⟨b, o + k * 4 + 1, none⟩ = some (.int .i64 ds[k].rule) ∧
    w.cell? ⟨b, o + k * 4 + 2, none⟩ = some (.int .i64 ds[k].place) ∧ w.cell? ⟨b, o + k * 4 + 3, none⟩ = some tv ∧ Ints w tv ds[k].touched)
def sizeOf (ds : List Dd) : Nat := ds.length + (ds.map fun d => d.touched.length).sum

theorem sum_take (ds : List Dd) (k : Nat) (hk : k < ds.length) : ((ds.take (k + 1)).map fun d => d.touched.length).sum = ((ds.take k).map fun d => d.touched.length).sum + ds[k].touched.length := by
  rw [List.take_succ_eq_append_getElem hk, List.map_append, List.sum_append]
  simp only [List.map_cons, List.map_nil, List.sum_cons, List.sum_nil, Nat.add_zero]

theorem sum_take_le (ds : List Dd) (k : Nat) : ((ds.take k).map fun d => d.touched.length).sum ≤ (ds.map fun d => d.touched.length).sum := by
  have := congrArg (fun l => (l.map fun d : Dd => d.touched.length).sum) (List.take_append_drop k ds)
  simp only [List.map_append, List.sum_append] at this
  omega

set_option maxRecDepth 100000 in
set_option maxHeartbeats 800000 in
theorem size_any (v : Value) (ds : List Dd) (w : World) (h : Deeds w v ds) :
    Calls Try.prog 18 #[v] w fun e w' => ∃ n : Nat, e = .returned (.int .i64 n) ∧ (n ≤ 200 → n = sizeOf ds) ∧ n ≤ sizeOf ds ∧ w = w' := by
  obtain ⟨A, c, rfl, hc, hm, hl, hd, hcells⟩ := h
  unfold maxLen at hm
  have HD := Lib.hid hd
  clear hd
  go_enter Try.func18, Try.ntmps18
  go_wp2
  go_loopw [3, 4] (fun n i wr => ∃ m k : Nat, k ≤ ds.length ∧ n = .int .i64 m ∧ i = .int .i64 k ∧ m = ds.length + ((ds.take k).map fun d => d.touched.length).sum ∧ (m ≤ 70368744180000) ∧ w = wr) (fun n i _ => ds.length - (intOf i).toNat)
  case atStart => exact ⟨ds.length, 0, Nat.zero_le _, rfl, rfl, by simp, by omega, rfl⟩
  case round =>
    obtain ⟨m, k, hk, rfl, rfl, hm1, hm2, rfl⟩ := hrel
    have HM := Lib.hid hm1
    clear hm1
    by_cases hlt : k < ds.length
    · have hlk : (k : Int) < (ds.length : Int) := by omega
      obtain ⟨b, o, rfl, hb, hcell⟩ := hcells (by omega)
      obtain ⟨tv, -, -, -, g3, hI⟩ := hcell k hlt
      obtain ⟨At, ct, rfl, -⟩ := hI.form
      have HS := Lib.hid (sum_take ds k hlt)
      have ht := (HD.out _ (List.getElem_mem hlt)).2.2.2
      generalize ds[k] = x at *
      clear hcells hcell hI
      by_cases h2 : m ≤ 200
      · have hw : (m : Int) + (x.touched.length : Int) ≤ 70368744180000 := by omega
        go_wp2
        go_roundw
        case rel => exact ⟨m + x.touched.length, k + 1, by omega, by go_num, by go_num, by rw [HS.out, HM.out]; omega, by omega, trivial⟩
        case measure => simp [intOf]; omega
      · go_wp2
        go_ret
        exact ⟨m, rfl, fun h => absurd h h2, by rw [HM.out]; exact Nat.add_le_add_left (sum_take_le ds k) _, rfl⟩
    · obtain rfl : k = ds.length := by omega
      go_wp2
      go_ret
      have hm : m = sizeOf ds := by
        rw [HM.out, List.take_length]
        rfl
      exact ⟨m, rfl, fun _ => hm, Nat.le_of_eq hm, rfl⟩

/-- how much was done, at most -/
theorem sizeOf_take (ds : List Dd) (k : Nat) (hk : k ≤ ds.length) : k + ((ds.take k).map fun d => d.touched.length).sum ≤ sizeOf ds := Nat.add_le_add hk (sum_take_le ds k)
def topP (l : List Fr) : Int := match l.getLast? with | some f => f.place | none => 0
def turnD (l : List Fr) (d : Dd) : Dd :=
  if pick d.what 8 < 5 then { d with what := pick d.what 8 }
  else if pick d.what 8 = 5 then { d with what := 0, place := if topP l < 1099511627776 then topP l + 1 else topP l }
  else if pick d.what 8 = 6 then { d with what := 0, place := topP l }
  else { d with what := 1, place := topP l }
theorem turnD_spec {n : Nat} {l : List Fr} {d : Dd} (hb : Bd n l) (h : i64 d.rule ∧ i64 d.place) : ∃ c r pl, turnD l d = ⟨c, r, pl, d.touched⟩ ∧ (c = 0 ∨ c = 1 ∨ c = 2 ∨ c = 3 ∨ c = 4) ∧ i64 r ∧ i64 pl := by
  have hp := pick_range d.what 8 (by omega)
  have ht : i64 (topP l) := by
    unfold topP
    cases e : l.getLast? with
    | none => unfold i64; decide
    | some f => exact (hb.fr f (List.mem_of_getLast? e)).1.2
  unfold turnD
  split
  · exact ⟨_, _, _, rfl, by omega, h.1, h.2⟩
  · split
    · refine ⟨_, _, _, rfl, .inl rfl, h.1, ?_⟩
      split
      · unfold i64 at ht ⊢; omega
      · exact ht
    · split
      · exact ⟨_, _, _, rfl, .inl rfl, h.1, ht⟩
      · exact ⟨_, _, _, rfl, .inr (.inl rfl), h.1, ht⟩
theorem topP_snoc (l : List Fr) (f : Fr) : topP (l ++ [f]) = f.place := by simp [topP]

set_option maxRecDepth 100000 in
set_option maxHeartbeats 3200000 in
theorem turned_any (q : Nat) (R : Nat → Prop) (l : List Fr) (d : Dd) (tv : Value) (w : World) (hs : RS w q R l) (hl : l.length ≤ 1000000) (ht : ∀ f ∈ l, i64 f.place) (hv : ∃ A n c, tv = .slice A n c) :
    Calls Try.prog 19 #[.pointer (some ⟨q, 0, none⟩), .agg #[.int .i64 d.what, .int .i64 d.rule, .int .i64 d.place, tv]] w fun e w' =>
      e = .returned (.agg #[.int .i64 (turnD l d).what, .int .i64 (turnD l d).rule, .int .i64 (turnD l d).place, tv]) ∧ Below w.heap.size w w' := by
  have HP := Lib.hid (fun W => pick_any d.what 8 W (by omega) (by omega))
  have hr := pick_range d.what 8 (by omega)
  have HT := Lib.hid (show turnD l d = if pick d.what 8 < 5 then { d with what := pick d.what 8 }
    else if pick d.what 8 = 5 then { d with what := 0, place := if topP l < 1099511627776 then topP l + 1 else topP l }
    else if pick d.what 8 = 6 then { d with what := 0, place := topP l }
    else { d with what := 1, place := topP l } from rfl)
  obtain ⟨Av, nv, cv, rfl⟩ := hv
  generalize pick d.what 8 = c at *
  have hc : c < 5 ∨ c = 5 ∨ c = 6 ∨ c = 7 := by omega
  rcases hc with hc | hc
  · have ht : turnD l d = { d with what := c } := by rw [HT.out, if_pos hc]
    rw [ht]
    clear HT ht hs
    have h5 : ¬ (5 ≤ c) := by omega
    have h5' : (c == 5) = false := by simp; omega
    have h5'' : ¬ (c = 5) := by omega
    obtain ⟨what, rule, place, touched⟩ := d
    go_enter Try.func19, Try.ntmps19
    go_wp2_with (first
      | (go_at_call 35; refine (HP.out _).mono ?_; rintro e w1 ⟨rfl, rfl⟩))
    refine bodyPost_ret (v := .agg #[.int .i64 c, .int .i64 rule, .int .i64 place, .slice Av nv cv]) ?_ rfl ⟨rfl, ((ext_refl w).alloc (Nat.le_refl _) _).alloc (by simp) _⟩
    simp [results, Try.results19, go_sem]
  · obtain ⟨what, rule, place, touched⟩ := d
    rcases List.eq_nil_or_concat l with rfl | ⟨l', f, rfl⟩
    · obtain ⟨A, cc, c0, cl, _⟩ := hs.form
      have c0' : w.cell? ⟨q, 0, none⟩ = some (.slice A 0 cc) := c0
      clear c0 hs
      rcases hc with rfl | rfl | rfl
      all_goals
        rw [HT.out]
        clear HT
        go_enter Try.func19, Try.ntmps19
        go_wp2_with (first
          | (go_at_call 35; refine (HP.out _).mono ?_; rintro e w1 ⟨rfl, rfl⟩))
        first
          | refine bodyPost_ret (v := .agg #[.int .i64 0, .int .i64 rule, .int .i64 1, .slice Av nv cv]) (by simp [results, Try.results19, go_sem]) rfl ⟨rfl, ((ext_refl w).alloc (Nat.le_refl _) _).alloc (by simp) _⟩
          | refine bodyPost_ret (v := .agg #[.int .i64 0, .int .i64 rule, .int .i64 0, .slice Av nv cv]) (by simp [results, Try.results19, go_sem]) rfl ⟨rfl, ((ext_refl w).alloc (Nat.le_refl _) _).alloc (by simp) _⟩
          | refine bodyPost_ret (v := .agg #[.int .i64 1, .int .i64 rule, .int .i64 0, .slice Av nv cv]) (by simp [results, Try.results19, go_sem]) rfl ⟨rfl, ((ext_refl w).alloc (Nat.le_refl _) _).alloc (by simp) _⟩
    · rw [List.concat_eq_append] at *
      have hlen : (l' ++ [f]).length = l'.length + 1 := by simp
      obtain ⟨A, cc, c0, cl, hcc, hcm, hcell⟩ := hs.form
      unfold maxLen at hcm
      obtain ⟨g, rfl, hg, -, hcell⟩ := hcell (by omega)
      obtain ⟨-, -, -, g1, -⟩ := hcell l'.length (by omega)
      have hx : (l' ++ [f])[l'.length]'(by omega) = f := by simp
      rw [hx] at g1
      have hfp := ht f (by simp)
      rw [hlen] at c0 hl hcc
      have hw64 : wrap64 (l'.length : Int) = (l'.length : Int) := IntWalk.wrap64_in _ (by omega)
      have hwr : IntKind.i64.wrap (l'.length : Int) = (l'.length : Int) := by rw [IntKind.wrap_i64]; omega
      have hlt : (l'.length : Int) < (l'.length : Int) + 1 := by omega
      have hpos : (0 : Int) < (l'.length : Int) + 1 := by omega
      have hdec : decide (0 < l'.length + 1) = true := by simp
      have htop := topP_snoc l' f
      rw [htop] at HT
      unfold i64 at hfp
      clear hs hcell hx ht hlen htop
      generalize f.place = pl at *
      rcases hc with rfl | rfl | rfl
      · by_cases hp40 : pl < 1099511627776
        · rw [HT.out]
          clear HT
          have hwp : wrap64 (pl + 1) = pl + 1 := IntWalk.wrap64_in _ (by omega)
          go_enter Try.func19, Try.ntmps19
          go_wp2_with (first
            | (go_at_call 35; refine (HP.out _).mono ?_; rintro e w1 ⟨rfl, rfl⟩))
          have hW := ((ext_refl w).alloc (Nat.le_refl _) (.cells #[.int .i64 what, .int .i64 rule, .int .i64 0, .slice Av nv cv] 55)).alloc (by simp) (.cells #[.int .i64 0, .int .i64 0, .int .i64 0, .slice none 0 0] 55)
          have z0 := (hW.cell (p := ⟨q, 0, none⟩) cl).trans c0
          have z1 := (hW.cell (p := ⟨g, l'.length * 5 + 1, none⟩) hg).trans g1
          refine AtE.start (S := fun w' => w'.cell? ⟨q, 0, none⟩ = some (.slice (some ⟨g, 0, none⟩) (l'.length + 1) cc) ∧ w'.cell? ⟨g, l'.length * 5 + 1, none⟩ = some (.int .i64 pl)) 14 (by kernel_rfl) (by kernel_rfl) (by exact ⟨by simpa using z0, by simpa using z1⟩) (fun hHeld => ?_)
          refine AtE.take (i := 0) (v := ?_) rfl (by kernel_rfl) (by kernel_rfl) (by kernel_rfl) (fun _ _ _ h => h) (by decide) (Or.inl ⟨by rfl, ?_⟩) hHeld ?_
          rotate_left
          · intro w hSw; go_simp; try (with_reducible rfl)
          simp only [Act.put, List.setIfInBounds_toArray, List.set_cons_zero, List.set_cons_succ]
          refine AtE.take (i := 1) (v := ?_) rfl (by kernel_rfl) (by kernel_rfl) (by kernel_rfl) (fun _ _ _ h => h) (by decide) (Or.inl ⟨by rfl, ?_⟩) hHeld ?_
          rotate_left
          · intro w hSw; go_simp; try (with_reducible rfl)
          simp only [Act.put, List.setIfInBounds_toArray, List.set_cons_zero, List.set_cons_succ]
          refine AtE.take (i := 2) (v := ?_) rfl (by kernel_rfl) (by kernel_rfl) (by kernel_rfl) (fun _ _ _ h => h) (by decide) (Or.inl ⟨by rfl, ?_⟩) hHeld ?_
          rotate_left
          · intro w hSw; go_simp; try (with_reducible rfl)
          simp only [Act.put, List.setIfInBounds_toArray, List.set_cons_zero, List.set_cons_succ]
          refine AtE.take (i := 3) (v := ?_) rfl (by kernel_rfl) (by kernel_rfl) (by kernel_rfl) (fun _ _ _ h => h) (by decide) (Or.inl ⟨by rfl, ?_⟩) hHeld ?_
          rotate_left
          · intro w hSw; go_simp; try (with_reducible rfl)
          simp only [Act.put, List.setIfInBounds_toArray, List.set_cons_zero, List.set_cons_succ]
          refine AtE.take (i := 4) (v := ?_) rfl (by kernel_rfl) (by kernel_rfl) (by kernel_rfl) (fun _ _ _ h => h) (by decide) (Or.inl ⟨by rfl, ?_⟩) hHeld ?_
          rotate_left
          · intro w hSw; go_simp; try (with_reducible rfl)
          simp only [Act.put, List.setIfInBounds_toArray, List.set_cons_zero, List.set_cons_succ]
          refine AtE.take (i := 5) (v := ?_) rfl (by kernel_rfl) (by kernel_rfl) (by kernel_rfl) (fun _ _ _ h => h) (by decide) (Or.inl ⟨by rfl, ?_⟩) hHeld ?_
          rotate_left
          · intro w hSw; go_simp; try (with_reducible rfl)
          simp only [Act.put, List.setIfInBounds_toArray, List.set_cons_zero, List.set_cons_succ]
          refine AtE.take (i := 6) (v := ?_) rfl (by kernel_rfl) (by kernel_rfl) (by kernel_rfl) (fun _ _ _ h => h) (by decide) (Or.inl ⟨by rfl, ?_⟩) hHeld ?_
          rotate_left
          · intro w hSw; go_simp; try (with_reducible rfl)
          simp only [Act.put, List.setIfInBounds_toArray, List.set_cons_zero, List.set_cons_succ]
          refine AtE.take (i := 7) (v := ?_) rfl (by kernel_rfl) (by kernel_rfl) (by kernel_rfl) (fun _ _ _ h => h) (by decide) (Or.inl ⟨by rfl, ?_⟩) hHeld ?_
          rotate_left
          · intro w hSw; go_simp; try (with_reducible rfl)
          simp only [Act.put, List.setIfInBounds_toArray, List.set_cons_zero, List.set_cons_succ]
          refine AtE.take (i := 8) (v := ?_) rfl (by kernel_rfl) (by kernel_rfl) (by kernel_rfl) (fun _ _ _ h => h) (by decide) (Or.inl ⟨by rfl, ?_⟩) hHeld ?_
          rotate_left
          · intro w hSw; go_simp; try (with_reducible rfl)
          simp only [Act.put, List.setIfInBounds_toArray, List.set_cons_zero, List.set_cons_succ]
          refine AtE.take (i := 9) (v := ?_) rfl (by kernel_rfl) (by kernel_rfl) (by kernel_rfl) (fun _ _ _ h => h) (by decide) (Or.inl ⟨by rfl, ?_⟩) hHeld ?_
          rotate_left
          · intro w hSw; go_simp; try (with_reducible rfl)
          simp only [Act.put, List.setIfInBounds_toArray, List.set_cons_zero, List.set_cons_succ]
          refine AtE.take (i := 10) (v := ?_) rfl (by kernel_rfl) (by kernel_rfl) (by kernel_rfl) (fun _ _ _ h => h) (by decide) (Or.inl ⟨by rfl, ?_⟩) hHeld ?_
          rotate_left
          · intro w hSw; go_simp; try (with_reducible rfl)
          simp only [Act.put, List.setIfInBounds_toArray, List.set_cons_zero, List.set_cons_succ]
          refine AtE.take (i := 11) (v := ?_) rfl (by kernel_rfl) (by kernel_rfl) (by kernel_rfl) (fun _ _ _ h => h) (by decide) (Or.inl ⟨by rfl, ?_⟩) hHeld ?_
          rotate_left
          · intro w hSw; go_simp; try (with_reducible rfl)
          simp only [Act.put, List.setIfInBounds_toArray, List.set_cons_zero, List.set_cons_succ]
          refine AtE.take (i := 12) (v := ?_) rfl (by kernel_rfl) (by kernel_rfl) (by kernel_rfl) (fun _ _ _ h => h) (by decide) (Or.inl ⟨by rfl, ?_⟩) hHeld ?_
          rotate_left
          · intro w hSw; go_simp; try (with_reducible rfl)
          simp only [Act.put, List.setIfInBounds_toArray, List.set_cons_zero, List.set_cons_succ]
          refine AtE.take (i := 13) (v := ?_) rfl (by kernel_rfl) (by kernel_rfl) (by kernel_rfl) (fun _ _ _ h => h) (by decide) (Or.inl ⟨by rfl, ?_⟩) hHeld ?_
          rotate_left
          · intro w hSw; go_simp; try (with_reducible rfl)
          simp only [Act.put, List.setIfInBounds_toArray, List.set_cons_zero, List.set_cons_succ]
          refine AtE.one (i := 14) rfl (by kernel_rfl) (fun K hK => ?_)
          go_simp
          refine hK.out _ _ (fun h => absurd rfl h) (fun _ => ?_)
          clear hK K
          refine AtE.done (by kernel_rfl) ?_
          clear z0 z1 hHeld
          go_wp2
          refine bodyPost_ret (v := .agg #[.int .i64 0, .int .i64 rule, .int .i64 (pl + 1), .slice Av nv cv]) (by simp [results, Try.results19, go_sem]) rfl ⟨?_, (((ext_refl w).alloc (Nat.le_refl _) _).alloc (by simp) _).drew⟩
          simp [hp40]
        · rw [HT.out]
          clear HT
          go_enter Try.func19, Try.ntmps19
          go_wp2_with (first
            | (go_at_call 35; refine (HP.out _).mono ?_; rintro e w1 ⟨rfl, rfl⟩))
          have hW := ((ext_refl w).alloc (Nat.le_refl _) (.cells #[.int .i64 what, .int .i64 rule, .int .i64 0, .slice Av nv cv] 55)).alloc (by simp) (.cells #[.int .i64 0, .int .i64 0, .int .i64 0, .slice none 0 0] 55)
          have z0 := (hW.cell (p := ⟨q, 0, none⟩) cl).trans c0
          have z1 := (hW.cell (p := ⟨g, l'.length * 5 + 1, none⟩) hg).trans g1
          refine AtE.start (S := fun w' => w'.cell? ⟨q, 0, none⟩ = some (.slice (some ⟨g, 0, none⟩) (l'.length + 1) cc) ∧ w'.cell? ⟨g, l'.length * 5 + 1, none⟩ = some (.int .i64 pl)) 14 (by kernel_rfl) (by kernel_rfl) (by exact ⟨by simpa using z0, by simpa using z1⟩) (fun hHeld => ?_)
          refine AtE.take (i := 0) (v := ?_) rfl (by kernel_rfl) (by kernel_rfl) (by kernel_rfl) (fun _ _ _ h => h) (by decide) (Or.inl ⟨by rfl, ?_⟩) hHeld ?_
          rotate_left
          · intro w hSw; go_simp; try (with_reducible rfl)
          simp only [Act.put, List.setIfInBounds_toArray, List.set_cons_zero, List.set_cons_succ]
          refine AtE.take (i := 1) (v := ?_) rfl (by kernel_rfl) (by kernel_rfl) (by kernel_rfl) (fun _ _ _ h => h) (by decide) (Or.inl ⟨by rfl, ?_⟩) hHeld ?_
          rotate_left
          · intro w hSw; go_simp; try (with_reducible rfl)
          simp only [Act.put, List.setIfInBounds_toArray, List.set_cons_zero, List.set_cons_succ]
          refine AtE.take (i := 2) (v := ?_) rfl (by kernel_rfl) (by kernel_rfl) (by kernel_rfl) (fun _ _ _ h => h) (by decide) (Or.inl ⟨by rfl, ?_⟩) hHeld ?_
          rotate_left
          · intro w hSw; go_simp; try (with_reducible rfl)
          simp only [Act.put, List.setIfInBounds_toArray, List.set_cons_zero, List.set_cons_succ]
          refine AtE.take (i := 3) (v := ?_) rfl (by kernel_rfl) (by kernel_rfl) (by kernel_rfl) (fun _ _ _ h => h) (by decide) (Or.inl ⟨by rfl, ?_⟩) hHeld ?_
          rotate_left
          · intro w hSw; go_simp; try (with_reducible rfl)
          simp only [Act.put, List.setIfInBounds_toArray, List.set_cons_zero, List.set_cons_succ]
          refine AtE.take (i := 4) (v := ?_) rfl (by kernel_rfl) (by kernel_rfl) (by kernel_rfl) (fun _ _ _ h => h) (by decide) (Or.inl ⟨by rfl, ?_⟩) hHeld ?_
          rotate_left
          · intro w hSw; go_simp; try (with_reducible rfl)
          simp only [Act.put, List.setIfInBounds_toArray, List.set_cons_zero, List.set_cons_succ]
          refine AtE.take (i := 5) (v := ?_) rfl (by kernel_rfl) (by kernel_rfl) (by kernel_rfl) (fun _ _ _ h => h) (by decide) (Or.inl ⟨by rfl, ?_⟩) hHeld ?_
          rotate_left
          · intro w hSw; go_simp; try (with_reducible rfl)
          simp only [Act.put, List.setIfInBounds_toArray, List.set_cons_zero, List.set_cons_succ]
          refine AtE.take (i := 6) (v := ?_) rfl (by kernel_rfl) (by kernel_rfl) (by kernel_rfl) (fun _ _ _ h => h) (by decide) (Or.inl ⟨by rfl, ?_⟩) hHeld ?_
          rotate_left
          · intro w hSw; go_simp; try (with_reducible rfl)
          simp only [Act.put, List.setIfInBounds_toArray, List.set_cons_zero, List.set_cons_succ]
          refine AtE.take (i := 7) (v := ?_) rfl (by kernel_rfl) (by kernel_rfl) (by kernel_rfl) (fun _ _ _ h => h) (by decide) (Or.inl ⟨by rfl, ?_⟩) hHeld ?_
          rotate_left
          · intro w hSw; go_simp; try (with_reducible rfl)
          simp only [Act.put, List.setIfInBounds_toArray, List.set_cons_zero, List.set_cons_succ]
          refine AtE.take (i := 8) (v := ?_) rfl (by kernel_rfl) (by kernel_rfl) (by kernel_rfl) (fun _ _ _ h => h) (by decide) (Or.inl ⟨by rfl, ?_⟩) hHeld ?_
          rotate_left
          · intro w hSw; go_simp; try (with_reducible rfl)
          simp only [Act.put, List.setIfInBounds_toArray, List.set_cons_zero, List.set_cons_succ]
          refine AtE.take (i := 9) (v := ?_) rfl (by kernel_rfl) (by kernel_rfl) (by kernel_rfl) (fun _ _ _ h => h) (by decide) (Or.inl ⟨by rfl, ?_⟩) hHeld ?_
          rotate_left
          · intro w hSw; go_simp; try (with_reducible rfl)
          simp only [Act.put, List.setIfInBounds_toArray, List.set_cons_zero, List.set_cons_succ]
          refine AtE.take (i := 10) (v := ?_) rfl (by kernel_rfl) (by kernel_rfl) (by kernel_rfl) (fun _ _ _ h => h) (by decide) (Or.inl ⟨by rfl, ?_⟩) hHeld ?_
          rotate_left
          · intro w hSw; go_simp; try (with_reducible rfl)
          simp only [Act.put, List.setIfInBounds_toArray, List.set_cons_zero, List.set_cons_succ]
          refine AtE.take (i := 11) (v := ?_) rfl (by kernel_rfl) (by kernel_rfl) (by kernel_rfl) (fun _ _ _ h => h) (by decide) (Or.inl ⟨by rfl, ?_⟩) hHeld ?_
          rotate_left
          · intro w hSw; go_simp; try (with_reducible rfl)
          simp only [Act.put, List.setIfInBounds_toArray, List.set_cons_zero, List.set_cons_succ]
          refine AtE.take (i := 12) (v := ?_) rfl (by kernel_rfl) (by kernel_rfl) (by kernel_rfl) (fun _ _ _ h => h) (by decide) (Or.inl ⟨by rfl, ?_⟩) hHeld ?_
          rotate_left
          · intro w hSw; go_simp; try (with_reducible rfl)
          simp only [Act.put, List.setIfInBounds_toArray, List.set_cons_zero, List.set_cons_succ]
          refine AtE.take (i := 13) (v := ?_) rfl (by kernel_rfl) (by kernel_rfl) (by kernel_rfl) (fun _ _ _ h => h) (by decide) (Or.inl ⟨by rfl, ?_⟩) hHeld ?_
          rotate_left
          · intro w hSw; go_simp; try (with_reducible rfl)
          simp only [Act.put, List.setIfInBounds_toArray, List.set_cons_zero, List.set_cons_succ]
          refine AtE.one (i := 14) rfl (by kernel_rfl) (fun K hK => ?_)
          go_simp
          refine hK.out _ _ (fun h => absurd rfl h) (fun _ => ?_)
          clear hK K
          refine AtE.done (by kernel_rfl) ?_
          clear z0 z1 hHeld
          go_wp2
          refine bodyPost_ret (v := .agg #[.int .i64 0, .int .i64 rule, .int .i64 pl, .slice Av nv cv]) (by simp [results, Try.results19, go_sem]) rfl ⟨?_, (((ext_refl w).alloc (Nat.le_refl _) _).alloc (by simp) _).drew⟩
          simp [hp40]
      · rw [HT.out]
        clear HT
        go_enter Try.func19, Try.ntmps19
        go_wp2_with (first
          | (go_at_call 35; refine (HP.out _).mono ?_; rintro e w1 ⟨rfl, rfl⟩))
        have hW := ((ext_refl w).alloc (Nat.le_refl _) (.cells #[.int .i64 what, .int .i64 rule, .int .i64 0, .slice Av nv cv] 55)).alloc (by simp) (.cells #[.int .i64 0, .int .i64 0, .int .i64 0, .slice none 0 0] 55)
        have z0 := (hW.cell (p := ⟨q, 0, none⟩) cl).trans c0
        have z1 := (hW.cell (p := ⟨g, l'.length * 5 + 1, none⟩) hg).trans g1
        refine AtE.start (S := fun w' => w'.cell? ⟨q, 0, none⟩ = some (.slice (some ⟨g, 0, none⟩) (l'.length + 1) cc) ∧ w'.cell? ⟨g, l'.length * 5 + 1, none⟩ = some (.int .i64 pl)) 14 (by kernel_rfl) (by kernel_rfl) (by exact ⟨by simpa using z0, by simpa using z1⟩) (fun hHeld => ?_)
        refine AtE.take (i := 0) (v := ?_) rfl (by kernel_rfl) (by kernel_rfl) (by kernel_rfl) (fun _ _ _ h => h) (by decide) (Or.inl ⟨by rfl, ?_⟩) hHeld ?_
        rotate_left
        · intro w hSw; go_simp; try (with_reducible rfl)
        simp only [Act.put, List.setIfInBounds_toArray, List.set_cons_zero, List.set_cons_succ]
        refine AtE.take (i := 1) (v := ?_) rfl (by kernel_rfl) (by kernel_rfl) (by kernel_rfl) (fun _ _ _ h => h) (by decide) (Or.inl ⟨by rfl, ?_⟩) hHeld ?_
        rotate_left
        · intro w hSw; go_simp; try (with_reducible rfl)
        simp only [Act.put, List.setIfInBounds_toArray, List.set_cons_zero, List.set_cons_succ]
        refine AtE.take (i := 2) (v := ?_) rfl (by kernel_rfl) (by kernel_rfl) (by kernel_rfl) (fun _ _ _ h => h) (by decide) (Or.inl ⟨by rfl, ?_⟩) hHeld ?_
        rotate_left
        · intro w hSw; go_simp; try (with_reducible rfl)
        simp only [Act.put, List.setIfInBounds_toArray, List.set_cons_zero, List.set_cons_succ]
        refine AtE.take (i := 3) (v := ?_) rfl (by kernel_rfl) (by kernel_rfl) (by kernel_rfl) (fun _ _ _ h => h) (by decide) (Or.inl ⟨by rfl, ?_⟩) hHeld ?_
        rotate_left
        · intro w hSw; go_simp; try (with_reducible rfl)
        simp only [Act.put, List.setIfInBounds_toArray, List.set_cons_zero, List.set_cons_succ]
        refine AtE.take (i := 4) (v := ?_) rfl (by kernel_rfl) (by kernel_rfl) (by kernel_rfl) (fun _ _ _ h => h) (by decide) (Or.inl ⟨by rfl, ?_⟩) hHeld ?_
        rotate_left
        · intro w hSw; go_simp; try (with_reducible rfl)
        simp only [Act.put, List.setIfInBounds_toArray, List.set_cons_zero, List.set_cons_succ]
        refine AtE.take (i := 5) (v := ?_) rfl (by kernel_rfl) (by kernel_rfl) (by kernel_rfl) (fun _ _ _ h => h) (by decide) (Or.inl ⟨by rfl, ?_⟩) hHeld ?_
        rotate_left
        · intro w hSw; go_simp; try (with_reducible rfl)
        simp only [Act.put, List.setIfInBounds_toArray, List.set_cons_zero, List.set_cons_succ]
        refine AtE.take (i := 6) (v := ?_) rfl (by kernel_rfl) (by kernel_rfl) (by kernel_rfl) (fun _ _ _ h => h) (by decide) (Or.inl ⟨by rfl, ?_⟩) hHeld ?_
        rotate_left
        · intro w hSw; go_simp; try (with_reducible rfl)
        simp only [Act.put, List.setIfInBounds_toArray, List.set_cons_zero, List.set_cons_succ]
        refine AtE.take (i := 7) (v := ?_) rfl (by kernel_rfl) (by kernel_rfl) (by kernel_rfl) (fun _ _ _ h => h) (by decide) (Or.inl ⟨by rfl, ?_⟩) hHeld ?_
        rotate_left
        · intro w hSw; go_simp; try (with_reducible rfl)
        simp only [Act.put, List.setIfInBounds_toArray, List.set_cons_zero, List.set_cons_succ]
        refine AtE.take (i := 8) (v := ?_) rfl (by kernel_rfl) (by kernel_rfl) (by kernel_rfl) (fun _ _ _ h => h) (by decide) (Or.inl ⟨by rfl, ?_⟩) hHeld ?_
        rotate_left
        · intro w hSw; go_simp; try (with_reducible rfl)
        simp only [Act.put, List.setIfInBounds_toArray, List.set_cons_zero, List.set_cons_succ]
        refine AtE.take (i := 9) (v := ?_) rfl (by kernel_rfl) (by kernel_rfl) (by kernel_rfl) (fun _ _ _ h => h) (by decide) (Or.inl ⟨by rfl, ?_⟩) hHeld ?_
        rotate_left
        · intro w hSw; go_simp; try (with_reducible rfl)
        simp only [Act.put, List.setIfInBounds_toArray, List.set_cons_zero, List.set_cons_succ]
        refine AtE.take (i := 10) (v := ?_) rfl (by kernel_rfl) (by kernel_rfl) (by kernel_rfl) (fun _ _ _ h => h) (by decide) (Or.inl ⟨by rfl, ?_⟩) hHeld ?_
        rotate_left
        · intro w hSw; go_simp; try (with_reducible rfl)
        simp only [Act.put, List.setIfInBounds_toArray, List.set_cons_zero, List.set_cons_succ]
        refine AtE.take (i := 11) (v := ?_) rfl (by kernel_rfl) (by kernel_rfl) (by kernel_rfl) (fun _ _ _ h => h) (by decide) (Or.inl ⟨by rfl, ?_⟩) hHeld ?_
        rotate_left
        · intro w hSw; go_simp; try (with_reducible rfl)
        simp only [Act.put, List.setIfInBounds_toArray, List.set_cons_zero, List.set_cons_succ]
        refine AtE.take (i := 12) (v := ?_) rfl (by kernel_rfl) (by kernel_rfl) (by kernel_rfl) (fun _ _ _ h => h) (by decide) (Or.inl ⟨by rfl, ?_⟩) hHeld ?_
        rotate_left
        · intro w hSw; go_simp; try (with_reducible rfl)
        simp only [Act.put, List.setIfInBounds_toArray, List.set_cons_zero, List.set_cons_succ]
        refine AtE.take (i := 13) (v := ?_) rfl (by kernel_rfl) (by kernel_rfl) (by kernel_rfl) (fun _ _ _ h => h) (by decide) (Or.inl ⟨by rfl, ?_⟩) hHeld ?_
        rotate_left
        · intro w hSw; go_simp; try (with_reducible rfl)
        simp only [Act.put, List.setIfInBounds_toArray, List.set_cons_zero, List.set_cons_succ]
        refine AtE.one (i := 14) rfl (by kernel_rfl) (fun K hK => ?_)
        go_simp
        refine hK.out _ _ (fun h => absurd rfl h) (fun _ => ?_)
        clear hK K
        refine AtE.done (by kernel_rfl) ?_
        clear z0 z1 hHeld
        go_wp2
        refine bodyPost_ret (v := .agg #[.int .i64 0, .int .i64 rule, .int .i64 pl, .slice Av nv cv]) (by simp [results, Try.results19, go_sem]) rfl ⟨?_, (((ext_refl w).alloc (Nat.le_refl _) _).alloc (by simp) _).drew⟩
        simp []
      · rw [HT.out]
        clear HT
        go_enter Try.func19, Try.ntmps19
        go_wp2_with (first
          | (go_at_call 35; refine (HP.out _).mono ?_; rintro e w1 ⟨rfl, rfl⟩))
        have hW := ((ext_refl w).alloc (Nat.le_refl _) (.cells #[.int .i64 what, .int .i64 rule, .int .i64 0, .slice Av nv cv] 55)).alloc (by simp) (.cells #[.int .i64 0, .int .i64 0, .int .i64 0, .slice none 0 0] 55)
        have z0 := (hW.cell (p := ⟨q, 0, none⟩) cl).trans c0
        have z1 := (hW.cell (p := ⟨g, l'.length * 5 + 1, none⟩) hg).trans g1
        refine AtE.start (S := fun w' => w'.cell? ⟨q, 0, none⟩ = some (.slice (some ⟨g, 0, none⟩) (l'.length + 1) cc) ∧ w'.cell? ⟨g, l'.length * 5 + 1, none⟩ = some (.int .i64 pl)) 14 (by kernel_rfl) (by kernel_rfl) (by exact ⟨by simpa using z0, by simpa using z1⟩) (fun hHeld => ?_)
        refine AtE.take (i := 0) (v := ?_) rfl (by kernel_rfl) (by kernel_rfl) (by kernel_rfl) (fun _ _ _ h => h) (by decide) (Or.inl ⟨by rfl, ?_⟩) hHeld ?_
        rotate_left
        · intro w hSw; go_simp; try (with_reducible rfl)
        simp only [Act.put, List.setIfInBounds_toArray, List.set_cons_zero, List.set_cons_succ]
        refine AtE.take (i := 1) (v := ?_) rfl (by kernel_rfl) (by kernel_rfl) (by kernel_rfl) (fun _ _ _ h => h) (by decide) (Or.inl ⟨by rfl, ?_⟩) hHeld ?_
        rotate_left
        · intro w hSw; go_simp; try (with_reducible rfl)
        simp only [Act.put, List.setIfInBounds_toArray, List.set_cons_zero, List.set_cons_succ]
        refine AtE.take (i := 2) (v := ?_) rfl (by kernel_rfl) (by kernel_rfl) (by kernel_rfl) (fun _ _ _ h => h) (by decide) (Or.inl ⟨by rfl, ?_⟩) hHeld ?_
        rotate_left
        · intro w hSw; go_simp; try (with_reducible rfl)
        simp only [Act.put, List.setIfInBounds_toArray, List.set_cons_zero, List.set_cons_succ]
        refine AtE.take (i := 3) (v := ?_) rfl (by kernel_rfl) (by kernel_rfl) (by kernel_rfl) (fun _ _ _ h => h) (by decide) (Or.inl ⟨by rfl, ?_⟩) hHeld ?_
        rotate_left
        · intro w hSw; go_simp; try (with_reducible rfl)
        simp only [Act.put, List.setIfInBounds_toArray, List.set_cons_zero, List.set_cons_succ]
        refine AtE.take (i := 4) (v := ?_) rfl (by kernel_rfl) (by kernel_rfl) (by kernel_rfl) (fun _ _ _ h => h) (by decide) (Or.inl ⟨by rfl, ?_⟩) hHeld ?_
        rotate_left
        · intro w hSw; go_simp; try (with_reducible rfl)
        simp only [Act.put, List.setIfInBounds_toArray, List.set_cons_zero, List.set_cons_succ]
        refine AtE.take (i := 5) (v := ?_) rfl (by kernel_rfl) (by kernel_rfl) (by kernel_rfl) (fun _ _ _ h => h) (by decide) (Or.inl ⟨by rfl, ?_⟩) hHeld ?_
        rotate_left
        · intro w hSw; go_simp; try (with_reducible rfl)
        simp only [Act.put, List.setIfInBounds_toArray, List.set_cons_zero, List.set_cons_succ]
        refine AtE.take (i := 6) (v := ?_) rfl (by kernel_rfl) (by kernel_rfl) (by kernel_rfl) (fun _ _ _ h => h) (by decide) (Or.inl ⟨by rfl, ?_⟩) hHeld ?_
        rotate_left
        · intro w hSw; go_simp; try (with_reducible rfl)
        simp only [Act.put, List.setIfInBounds_toArray, List.set_cons_zero, List.set_cons_succ]
        refine AtE.take (i := 7) (v := ?_) rfl (by kernel_rfl) (by kernel_rfl) (by kernel_rfl) (fun _ _ _ h => h) (by decide) (Or.inl ⟨by rfl, ?_⟩) hHeld ?_
        rotate_left
        · intro w hSw; go_simp; try (with_reducible rfl)
        simp only [Act.put, List.setIfInBounds_toArray, List.set_cons_zero, List.set_cons_succ]
        refine AtE.take (i := 8) (v := ?_) rfl (by kernel_rfl) (by kernel_rfl) (by kernel_rfl) (fun _ _ _ h => h) (by decide) (Or.inl ⟨by rfl, ?_⟩) hHeld ?_
        rotate_left
        · intro w hSw; go_simp; try (with_reducible rfl)
        simp only [Act.put, List.setIfInBounds_toArray, List.set_cons_zero, List.set_cons_succ]
        refine AtE.take (i := 9) (v := ?_) rfl (by kernel_rfl) (by kernel_rfl) (by kernel_rfl) (fun _ _ _ h => h) (by decide) (Or.inl ⟨by rfl, ?_⟩) hHeld ?_
        rotate_left
        · intro w hSw; go_simp; try (with_reducible rfl)
        simp only [Act.put, List.setIfInBounds_toArray, List.set_cons_zero, List.set_cons_succ]
        refine AtE.take (i := 10) (v := ?_) rfl (by kernel_rfl) (by kernel_rfl) (by kernel_rfl) (fun _ _ _ h => h) (by decide) (Or.inl ⟨by rfl, ?_⟩) hHeld ?_
        rotate_left
        · intro w hSw; go_simp; try (with_reducible rfl)
        simp only [Act.put, List.setIfInBounds_toArray, List.set_cons_zero, List.set_cons_succ]
        refine AtE.take (i := 11) (v := ?_) rfl (by kernel_rfl) (by kernel_rfl) (by kernel_rfl) (fun _ _ _ h => h) (by decide) (Or.inl ⟨by rfl, ?_⟩) hHeld ?_
        rotate_left
        · intro w hSw; go_simp; try (with_reducible rfl)
        simp only [Act.put, List.setIfInBounds_toArray, List.set_cons_zero, List.set_cons_succ]
        refine AtE.take (i := 12) (v := ?_) rfl (by kernel_rfl) (by kernel_rfl) (by kernel_rfl) (fun _ _ _ h => h) (by decide) (Or.inl ⟨by rfl, ?_⟩) hHeld ?_
        rotate_left
        · intro w hSw; go_simp; try (with_reducible rfl)
        simp only [Act.put, List.setIfInBounds_toArray, List.set_cons_zero, List.set_cons_succ]
        refine AtE.take (i := 13) (v := ?_) rfl (by kernel_rfl) (by kernel_rfl) (by kernel_rfl) (fun _ _ _ h => h) (by decide) (Or.inl ⟨by rfl, ?_⟩) hHeld ?_
        rotate_left
        · intro w hSw; go_simp; try (with_reducible rfl)
        simp only [Act.put, List.setIfInBounds_toArray, List.set_cons_zero, List.set_cons_succ]
        refine AtE.one (i := 14) rfl (by kernel_rfl) (fun K hK => ?_)
        go_simp
        refine hK.out _ _ (fun h => absurd rfl h) (fun _ => ?_)
        clear hK K
        refine AtE.done (by kernel_rfl) ?_
        clear z0 z1 hHeld
        go_wp2
        refine bodyPost_ret (v := .agg #[.int .i64 1, .int .i64 rule, .int .i64 pl, .slice Av nv cv]) (by simp [results, Try.results19, go_sem]) rfl ⟨?_, (((ext_refl w).alloc (Nat.le_refl _) _).alloc (by simp) _).drew⟩
        simp []
end Go.Proofs.Ytjmidomcgaijjaa
